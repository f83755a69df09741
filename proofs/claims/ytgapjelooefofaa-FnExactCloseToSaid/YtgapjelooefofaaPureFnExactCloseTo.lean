/- CloseTo is what the reference tells, for all entries. Conditions: none. -/
import Derived.Test.YtgapjelooefofaaPFnExactCloseTox0
import Derived.Test.YtgapjelooefofaaMFnExactCloseTox1
import Derived.Test.YtgapjelooefofaaMFnExactCloseTox2
import Derived.Test.YtgapjelooefofaaMFnExactCloseTox3
import Derived.Test.YtgapjelooefofaaMFnExactCloseTox4
import Derived.Test.YtgapjelooefofaaMFnExactCloseTox5
import Derived.Test.YtgapjelooefofaaMFnExactCloseTox6
import Derived.Test.YtgapjelooefofaaBase
set_option linter.unusedVariables false
set_option linter.unusedSimpArgs false
namespace Go.Proofs.Ytgapjelooefofaa.Pure
open Go.RowKit Go.Proofs.Ytgapjelooefofaa.PFnExactCloseTo Go.Proofs.YtgapjelooefofaaW.PrintWords Go.Proofs.YtgapjelooefofaaW.PrintLast Go.Proofs.YtgapjelooefofaaW.PrintMore Go.Proofs.Ytgapjelooefofaa.Base
theorem u8_range {x : Int} (h : (Lit.int .u8 x).wf = true) : 0 ≤ x ∧ x ≤ 255 := by
  simp [Lit.wf, IntKind.min, IntKind.max, IntKind.bits, IntKind.signed] at h
  omega
/-! ## Valid entries, and balances. -/
def VE (e : S33) : Prop := 0 ≤ e.f0 ∧ e.f0 ≤ 999 ∧ 0 ≤ e.f1 ∧ e.f1 ≤ 7 ∧ 0 ≤ e.f2 ∧ e.f2 ≤ 7 ∧ e.f1 ≠ e.f2 ∧ 1 ≤ e.f3 ∧ e.f3 ≤ 1000000
instance (e : S33) : Decidable (VE e) := by unfold VE; infer_instance
def VEs (l : List S33) : Prop := l.length ≤ 40 ∧ ∀ e ∈ l, VE e
instance (l : List S33) : Decidable (VEs l) := by unfold VEs; infer_instance
theorem at_rdE {xs ys : List S33} {i : Int} {y : S33} (h : At xs i (y :: ys)) : rd_T33 xs i = y := h.getD _

theorem inRange_eq (n lo hi : Int) : spec_inRange.f n lo hi = some (decide (lo ≤ n ∧ n ≤ hi)) := by
  unfold spec_inRange.f
  split
  · exact congrArg some (decide_eq_decide.2 (by omega))
  · exact congrArg some (decide_eq_false (by omega)).symm
theorem validAccount_eq (n : Int) : impl_validAccount.f n = some (decide (0 ≤ n ∧ n ≤ 7)) := by
  unfold impl_validAccount.f
  split
  · exact congrArg some (decide_eq_decide.2 (by omega))
  · exact congrArg some (decide_eq_false (by omega)).symm
theorem impl_validEntry_ok (a b c d : Int) : EvS (fun k => impl_validEntry.f k a b c d) (· = decide (VE ⟨a, b, c, d⟩)) := by
  have jt : ¬ VE ⟨a, b, c, d⟩ → EvS (fun k => impl_validEntry.j0 k true a b c d) (· = decide (VE ⟨a, b, c, d⟩)) := by
    intro h
    refine EvS.step (fun k => by rw [impl_validEntry.j0]) ?_
    exact EvS.pos rfl (EvS.now (decide_eq_false h).symm)
  simp only [impl_validEntry.f]
  refine EvS.ite (fun h => jt (by unfold VE; dsimp only; omega)) (fun h1 => EvS.ite (fun h => jt (by unfold VE; dsimp only; omega)) (fun h2 => EvS.ite (fun h => jt (by unfold VE; dsimp only; omega)) (fun h3 => ?_)))
  by_cases h4 : d > 1000000
  · rw [decide_eq_true h4]; exact jt (by unfold VE; dsimp only; omega)
  · rw [decide_eq_false h4]
    refine EvS.step (fun k => by rw [impl_validEntry.j0]) ?_
    refine EvS.neg (by simp) (EvS.call (validAccount_eq b) (EvS.ite (fun h5 => EvS.call (validAccount_eq c) (EvS.ite (fun h6 => EvS.now ?_) (fun h6 => EvS.now ?_))) (fun h5 => EvS.now ?_)))
    · have h5 := of_decide_eq_true h5
      have h6 := of_decide_eq_true h6
      by_cases hbc : b = c
      · rw [decide_eq_false (by unfold VE; dsimp only; omega)]; simp [hbc]
      · rw [decide_eq_true (by unfold VE; dsimp only; omega)]; simp [hbc]
    · simp at h6
      exact (decide_eq_false (by unfold VE; dsimp only; omega)).symm
    · simp at h5
      exact (decide_eq_false (by unfold VE; dsimp only; omega)).symm
theorem spec_validEntry_eq (a b c d : Int) : spec_validEntry.f a b c d = some (decide (VE ⟨a, b, c, d⟩)) := by
  unfold spec_validEntry.f
  simp only [inRange_eq, Option.bind_some]
  split
  · rename_i h1
    have h1 := of_decide_eq_true h1
    split
    · rename_i h2
      have h2 := of_decide_eq_true h2
      split
      · rename_i h3
        have h3 := of_decide_eq_true h3
        split
        · exact congrArg some (decide_eq_false (by unfold VE; dsimp only; omega)).symm
        · exact congrArg some (decide_eq_decide.2 (by unfold VE; dsimp only; omega))
      · rename_i h3; simp at h3
        exact congrArg some (decide_eq_false (by unfold VE; dsimp only; omega)).symm
    · rename_i h2; simp at h2
      exact congrArg some (decide_eq_false (by unfold VE; dsimp only; omega)).symm
  · rename_i h1; simp at h1
    exact congrArg some (decide_eq_false (by unfold VE; dsimp only; omega)).symm

theorem impl_ValidEntries_l0 (xs : List S33) (hl : xs.length ≤ 2000000) (ys : List S33) : ∀ i : Int, At xs i ys → EvS (fun k => impl_ValidEntries.l0 k xs xs.length i) (· = decide (∀ e ∈ ys, VE e)) := by
  induction ys with
  | nil =>
    intro i h
    refine EvS.step (fun k => by rw [impl_ValidEntries.l0]) ?_
    exact EvS.neg (by have := h.ge; omega) (EvS.now (by simp))
  | cons y ys ih =>
    intro i h
    refine EvS.step (fun k => by rw [impl_ValidEntries.l0]) ?_
    refine EvS.pos h.lt (EvS.pos h.nonneg (EvS.pos h.lt ?_))
    rw [at_rdE h]
    refine EvS.bindv (impl_validEntry_ok y.f0 y.f1 y.f2 y.f3) (EvS.ite (fun c => ?_) (fun c => EvS.now ?_))
    · have c := of_decide_eq_true c
      refine EvS.mono (ih _ (h.wnext (by omega))) (fun r hr => ?_)
      rw [hr]
      exact decide_eq_decide.2 ⟨fun g e he => by rcases List.mem_cons.1 he with rfl | he; exact c; exact g e he, fun g e he => g e (List.mem_cons_of_mem _ he)⟩
    · simp at c
      exact (decide_eq_false (fun g => c (g y List.mem_cons_self))).symm
theorem impl_ValidEntries_ok (xs : List S33) (hl : xs.length ≤ 2000000) : EvS (fun k => impl_ValidEntries.f k xs) (· = decide (VEs xs)) := by
  simp only [impl_ValidEntries.f]
  refine EvS.ite (fun c => EvS.now (decide_eq_false (fun g => by have := g.1; omega)).symm) (fun c => ?_)
  refine EvS.mono (impl_ValidEntries_l0 xs hl xs 0 (At.zero xs)) (fun r hr => ?_)
  rw [hr]
  exact decide_eq_decide.2 ⟨fun g => ⟨by omega, g⟩, fun g => g.2⟩
theorem spec_validEntries_l0 (xs : List S33) (hl : xs.length ≤ 2000000) (ys : List S33) : ∀ i : Int, At xs i ys → EvS (fun k => spec_validEntries.l0 k xs i) (· = decide (xs.length ≤ 40 ∧ ∀ e ∈ ys, VE e)) := by
  induction ys with
  | nil =>
    intro i h
    refine EvS.step (fun k => by rw [spec_validEntries.l0]) ?_
    exact EvS.neg (by have := h.ge; omega) (EvS.now (decide_eq_decide.2 ⟨fun g => ⟨by omega, by simp⟩, fun g => by omega⟩))
  | cons y ys ih =>
    intro i h
    refine EvS.step (fun k => by rw [spec_validEntries.l0]) ?_
    refine EvS.pos h.lt (EvS.pos h.nonneg ?_)
    rw [at_rdE h]
    refine EvS.call (spec_validEntry_eq y.f0 y.f1 y.f2 y.f3) (EvS.ite (fun c => ?_) (fun c => EvS.now ?_))
    · have c := of_decide_eq_true c
      refine EvS.mono (ih _ (h.wnext (by omega))) (fun r hr => ?_)
      rw [hr]
      exact decide_eq_decide.2 ⟨fun g => ⟨g.1, fun e he => by rcases List.mem_cons.1 he with rfl | he; exact c; exact g.2 e he⟩, fun g => ⟨g.1, fun e he => g.2 e (List.mem_cons_of_mem _ he)⟩⟩
    · simp at c
      exact (decide_eq_false (fun g => c (g.2 y List.mem_cons_self))).symm
theorem spec_validEntries_ok (xs : List S33) (hl : xs.length ≤ 2000000) : EvS (fun k => spec_validEntries.f k xs) (· = decide (VEs xs)) := by
  simp only [spec_validEntries.f]
  exact spec_validEntries_l0 xs hl xs 0 (At.zero xs)
/-- What comes to account j by entries. -/
def delta : List S33 → Int → Int
  | [], _ => 0
  | e :: l, j => ((if e.f2 = j then e.f3 else 0) - (if e.f1 = j then e.f3 else 0)) + delta l j
theorem delta_append (a b : List S33) (j : Int) : delta (a ++ b) j = delta a j + delta b j := by
  induction a with
  | nil => simp [delta]
  | cons e a ih => simp only [List.cons_append, delta, ih]; omega
theorem delta_bound (l : List S33) (h : ∀ e ∈ l, VE e) (j : Int) : -(1000000 * (l.length : Int)) ≤ delta l j ∧ delta l j ≤ 1000000 * (l.length : Int) := by
  induction l with
  | nil => simp [delta]
  | cons e l ih =>
    have h1 := ih (fun x hx => h x (List.mem_cons_of_mem _ hx))
    obtain ⟨_, _, _, _, _, _, a, b, c⟩ := h e List.mem_cons_self
    simp only [delta, List.length_cons]
    split <;> split <;> omega
/-- All balances, as a list. -/
def sal (l : List S33) : List Int := [delta l 0, delta l 1, delta l 2, delta l 3, delta l 4, delta l 5, delta l 6, delta l 7]
theorem sal_of {s : List Int} {f : Int → Int} (h : s.length = 8) (hs : ∀ j : Int, 0 ≤ j → j < 8 → rd s j = f j) : s = [f 0, f 1, f 2, f 3, f 4, f 5, f 6, f 7] := by
  obtain ⟨s0, s1, s2, s3, s4, s5, s6, s7, rfl⟩ : ∃ a b c d e f g h, s = [a, b, c, d, e, f, g, h] := by
    match s, h with
    | [a, b, c, d, e, f, g, h], _ => exact ⟨a, b, c, d, e, f, g, h, rfl⟩
  have e0 := hs 0 (by omega) (by omega)
  have e1 := hs 1 (by omega) (by omega)
  have e2 := hs 2 (by omega) (by omega)
  have e3 := hs 3 (by omega) (by omega)
  have e4 := hs 4 (by omega) (by omega)
  have e5 := hs 5 (by omega) (by omega)
  have e6 := hs 6 (by omega) (by omega)
  have e7 := hs 7 (by omega) (by omega)
  simp [rd] at e0 e1 e2 e3 e4 e5 e6 e7
  rw [← e0, ← e1, ← e2, ← e3, ← e4, ← e5, ← e6, ← e7]
theorem rd_set (xs : List Int) (i j v : Int) (h0 : 0 ≤ i) (h1 : i < xs.length) (h2 : 0 ≤ j) : rd (xs.set i.toNat v) j = if i = j then v else rd xs j := by
  unfold rd
  rw [List.getD_eq_getElem?_getD, List.getElem?_set]
  by_cases c : i = j
  · subst c; rw [if_pos rfl, if_pos (by omega), if_pos rfl]; rfl
  · rw [if_neg (by omega), if_neg c, List.getD_eq_getElem?_getD]
theorem rd_zeros (n : Nat) (j : Int) : rd (List.replicate n 0) j = 0 := by
  unfold rd
  rw [List.getD_eq_getElem?_getD, List.getElem?_replicate]
  split <;> rfl
theorem impl_saldi_l0 (xs : List S33) (hl : VEs xs) (ys : List S33) : ∀ (i : Int) (s : List Int), At xs i ys → s.length = 8 → (∀ j : Int, 0 ≤ j → j < 8 → rd s j + delta ys j = delta xs j) → EvS (fun k => impl_SaldiOf.l0 k s xs xs.length i) (· = sal xs) := by
  have hxl := hl.1
  induction ys with
  | nil =>
    intro i s h h8 hs
    refine EvS.step (fun k => by rw [impl_SaldiOf.l0]) ?_
    refine EvS.neg (by have := h.ge; omega) (EvS.now ?_)
    exact sal_of (f := delta xs) h8 (fun j h0 h1 => by have := hs j h0 h1; simp [delta] at this; exact this)
  | cons y ys ih =>
    intro i s h h8 hs
    refine EvS.step (fun k => by rw [impl_SaldiOf.l0]) ?_
    refine EvS.pos h.lt (EvS.pos h.nonneg (EvS.pos h.lt ?_))
    rw [at_rdE h]
    have hy := hl.2 y h.mem
    obtain ⟨g1, g2, g3, g4, g5, g6, g7, g8, g9⟩ := hy
    have hb := delta_bound (y :: ys) (fun e he => hl.2 e (h.sub e he))
    have hbx := delta_bound xs hl.2
    have hyl : (y :: ys).length ≤ 40 := by have := h.len; have := h.nonneg; omega
    have b1 : -100000000 ≤ rd s y.f2 ∧ rd s y.f2 ≤ 100000000 := by have := hs y.f2 g5 (by omega); have := hb y.f2; have := hbx y.f2; omega
    have b2 : -100000000 ≤ rd s y.f1 ∧ rd s y.f1 ≤ 100000000 := by have := hs y.f1 g3 (by omega); have := hb y.f1; have := hbx y.f1; omega
    refine EvS.pos g5 (EvS.pos (by omega) (EvS.onsome ?_))
    refine EvS.pos g3 (EvS.pos (by first | omega | (rw [List.length_set]; omega)) ?_)
    rw [rd_set _ _ _ _ g5 (by omega) g3, if_neg (by omega), w64 (x := rd s y.f2 + y.f3) (by omega) (by omega), w64 (x := rd s y.f1 - y.f3) (by omega) (by omega)]
    refine ih _ _ (h.wnext (by omega)) (by simp; omega) (fun j h0 h1 => ?_)
    rw [rd_set (s.set y.f2.toNat (rd s y.f2 + y.f3)) _ _ _ g3 (by simp; omega) h0, rd_set _ _ _ _ g5 (by omega) h0]
    have := hs j h0 h1
    simp only [delta] at this
    by_cases c1 : y.f1 = j
    · rw [if_pos c1]; rw [if_neg (by omega), if_pos c1] at this; rw [c1] at *; omega
    · rw [if_neg c1]; rw [if_neg c1] at this
      by_cases c2 : y.f2 = j
      · rw [if_pos c2]; rw [if_pos c2] at this; rw [c2] at *; omega
      · rw [if_neg c2]; rw [if_neg c2] at this; omega
theorem impl_SaldiOf_ok (xs : List S33) (h : xs.length ≤ 2000000) : EvS (fun k => impl_SaldiOf.f k xs) (· = if VEs xs then sal xs else []) := by
  simp only [impl_SaldiOf.f]
  refine EvS.bindv (impl_ValidEntries_ok xs h) ?_
  by_cases hv : VEs xs
  · rw [if_pos hv]
    refine EvS.pos (decide_eq_true hv) (EvS.pos (by omega) ?_)
    exact impl_saldi_l0 xs hv xs 0 _ (At.zero xs) (by simp) (fun j _ _ => by rw [rd_zeros]; omega)
  · rw [if_neg hv]
    exact EvS.neg (by simp [hv]) (EvS.now rfl)
theorem spec_saldi_l0 (xs : List S33) (hl : VEs xs) (ys : List S33) : ∀ (i : Int) (s : List Int), At xs i ys → s.length = 8 → (∀ j : Int, 0 ≤ j → j < 8 → rd s j + delta ys j = delta xs j) → EvS (fun k => spec_saldi.l0 k xs s i) (· = sal xs) := by
  have hxl := hl.1
  induction ys with
  | nil =>
    intro i s h h8 hs
    refine EvS.step (fun k => by rw [spec_saldi.l0]) ?_
    refine EvS.neg (by have := h.ge; omega) (EvS.now ?_)
    exact sal_of (f := delta xs) h8 (fun j h0 h1 => by have := hs j h0 h1; simp [delta] at this; exact this)
  | cons y ys ih =>
    intro i s h h8 hs
    refine EvS.step (fun k => by rw [spec_saldi.l0]) ?_
    refine EvS.pos h.lt (EvS.pos h.nonneg ?_)
    rw [at_rdE h]
    have hy := hl.2 y h.mem
    obtain ⟨g1, g2, g3, g4, g5, g6, g7, g8, g9⟩ := hy
    have hb := delta_bound (y :: ys) (fun e he => hl.2 e (h.sub e he))
    have hbx := delta_bound xs hl.2
    have hyl : (y :: ys).length ≤ 40 := by have := h.len; have := h.nonneg; omega
    have b1 : -100000000 ≤ rd s y.f2 ∧ rd s y.f2 ≤ 100000000 := by have := hs y.f2 g5 (by omega); have := hb y.f2; have := hbx y.f2; omega
    have b2 : -100000000 ≤ rd s y.f1 ∧ rd s y.f1 ≤ 100000000 := by have := hs y.f1 g3 (by omega); have := hb y.f1; have := hbx y.f1; omega
    refine EvS.pos g3 (EvS.pos (by omega) (EvS.onsome ?_))
    refine EvS.pos g5 (EvS.pos (by first | omega | (rw [List.length_set]; omega)) ?_)
    rw [rd_set _ _ _ _ g3 (by omega) g5, if_neg (by omega), w64 (x := rd s y.f2 + y.f3) (by omega) (by omega), w64 (x := rd s y.f1 - y.f3) (by omega) (by omega)]
    refine ih _ _ (h.wnext (by omega)) (by simp; omega) (fun j h0 h1 => ?_)
    rw [rd_set (s.set y.f1.toNat (rd s y.f1 - y.f3)) _ _ _ g5 (by simp; omega) h0, rd_set _ _ _ _ g3 (by omega) h0]
    have := hs j h0 h1
    simp only [delta] at this
    by_cases c1 : y.f1 = j
    · rw [if_neg (by omega), if_pos c1]; rw [if_neg (by omega), if_pos c1] at this; rw [c1] at *; omega
    · rw [if_neg c1] at this
      by_cases c2 : y.f2 = j
      · rw [if_pos c2]; rw [if_pos c2] at this; rw [c2] at *; omega
      · rw [if_neg c2, if_neg c1]; rw [if_neg c2] at this; omega
theorem spec_saldi_ok (xs : List S33) (hv : VEs xs) : EvS (fun k => spec_saldi.f k xs) (· = sal xs) := by
  simp only [spec_saldi.f]
  refine EvS.pos (by omega) ?_
  exact spec_saldi_l0 xs hv xs 0 _ (At.zero xs) (by simp) (fun j _ _ => by rw [rd_zeros]; omega)
/-! ## The closing entries. -/
def closeL (acc day : Int) : Int → List Int → List S33 → List S33
  | _, [], out => out
  | i, s :: ss, out => if i = acc ∨ s = 0 then closeL acc day (i + 1) ss out else if s > 1000000 ∨ s < -1000000 then [] else closeL acc day (i + 1) ss (out ++ [if s < 0 then ⟨day, acc, i, -s⟩ else ⟨day, i, acc, s⟩])

theorem impl_close_l0 (acc day : Int) (xs : List Int) (hl : xs.length = 8) (ys : List Int) : ∀ (i : Int) (out : List S33), At xs i ys → out.length ≤ i →
    EvS (fun k => impl_CloseTo.l0 k acc day out xs xs.length i) (· = closeL acc day i ys out) := by
  induction ys with
  | nil =>
    intro i out h ho
    refine EvS.step (fun k => by rw [impl_CloseTo.l0]) ?_
    exact EvS.neg (by have := h.ge; omega) (EvS.now rfl)
  | cons y ys ih =>
    intro i out h ho
    have hlt := h.lt
    have h0 := h.nonneg
    have hi : wrap64 (i + 1) = i + 1 := w64 (by omega) (by omega)
    refine EvS.step (fun k => by rw [impl_CloseTo.l0]) ?_
    refine EvS.pos h.lt (EvS.pos h.nonneg (EvS.pos h.lt ?_))
    rw [At.rd h]
    have skip : i = acc ∨ y = 0 → EvS (fun k => impl_CloseTo.j2 k acc day out i y xs xs.length i true) (· = closeL acc day i (y :: ys) out) := by
      intro g
      refine EvS.step (fun k => by rw [impl_CloseTo.j2]) ?_
      rw [closeL, if_pos g]
      refine EvS.pos rfl ?_
      rw [hi]
      exact ih _ _ h.next (by omega)
    refine EvS.ite (fun c => skip (.inl c)) (fun c => ?_)
    by_cases cy : y = 0
    · rw [beq_dec, decide_eq_true cy]; exact skip (.inr cy)
    · rw [beq_dec, decide_eq_false cy]
      refine EvS.step (fun k => by rw [impl_CloseTo.j2]) ?_
      rw [closeL, if_neg (by omega)]
      refine EvS.neg (by simp) ?_
      have jt : y > 1000000 ∨ y < -1000000 → EvS (fun k => impl_CloseTo.j3 k acc day out i y xs xs.length i true) (· = if y > 1000000 ∨ y < -1000000 then [] else closeL acc day (i + 1) ys (out ++ [if y < 0 then ⟨day, acc, i, -y⟩ else ⟨day, i, acc, y⟩])) := by
        intro g
        refine EvS.step (fun k => by rw [impl_CloseTo.j3]) ?_
        rw [if_pos g]
        exact EvS.pos rfl (EvS.now rfl)
      refine EvS.ite (fun g => jt (.inl g)) (fun g => ?_)
      by_cases g2 : y < -1000000
      · rw [decide_eq_true g2]; exact jt (.inr g2)
      · rw [decide_eq_false g2, if_neg (by omega)]
        refine EvS.step (fun k => by rw [impl_CloseTo.j3]) ?_
        refine EvS.neg (by simp) ?_
        rw [hi]
        by_cases g3 : y < 0
        · rw [if_pos g3, w64 (x := -y) (by omega) (by omega)]
          exact EvS.pos g3 (EvS.pos (by omega) (ih _ _ h.next (by simp; omega)))
        · rw [if_neg g3]
          exact EvS.neg g3 (EvS.pos (by omega) (ih _ _ h.next (by simp; omega)))

theorem spec_close_l0 (acc day : Int) (ha : 0 ≤ acc ∧ acc ≤ 7) (hd : 0 ≤ day ∧ day ≤ 999) (xs : List Int) (hl : xs.length = 8) (hb : ∀ x ∈ xs, -100000000 ≤ x ∧ x ≤ 100000000) (ys : List Int) : ∀ (i : Int) (out : List S33), At xs i ys → out.length ≤ i →
    EvS (fun k => spec_CloseTo.l0 k acc day out xs i) (· = closeL acc day i ys out) := by
  induction ys with
  | nil =>
    intro i out h ho
    refine EvS.step (fun k => by rw [spec_CloseTo.l0]) ?_
    exact EvS.neg (by have := h.ge; omega) (EvS.now rfl)
  | cons y ys ih =>
    intro i out h ho
    have hlt := h.lt
    have h0 := h.nonneg
    have hi : wrap64 (i + 1) = i + 1 := w64 (by omega) (by omega)
    have hy := hb y h.mem
    refine EvS.step (fun k => by rw [spec_CloseTo.l0]) ?_
    refine EvS.pos h.lt ?_
    rw [At.rd h]
    have skip : i = acc ∨ y = 0 → EvS (fun k => spec_CloseTo.j2 k acc day out xs i true) (· = closeL acc day i (y :: ys) out) := by
      intro g
      refine EvS.step (fun k => by rw [spec_CloseTo.j2]) ?_
      rw [closeL, if_pos g]
      refine EvS.pos rfl ?_
      rw [hi]
      exact ih _ _ h.next (by omega)
    refine EvS.ite (fun c => skip (.inl c)) (fun c => EvS.pos h.nonneg ?_)
    by_cases cy : y = 0
    · rw [beq_dec, decide_eq_true cy]; exact skip (.inr cy)
    · rw [beq_dec, decide_eq_false cy]
      refine EvS.step (fun k => by rw [spec_CloseTo.j2]) ?_
      rw [closeL, if_neg (by omega)]
      refine EvS.neg (by simp) (EvS.pos h.nonneg (EvS.pos h.lt ?_))
      rw [At.rd h, hi, w64 (x := -y) (by omega) (by omega)]
      by_cases g3 : y < 0
      · rw [if_pos g3]
        refine EvS.pos g3 (EvS.call (spec_validEntry_eq _ _ _ _) ?_)
        by_cases g4 : y > 1000000 ∨ y < -1000000
        · rw [if_pos g4]
          exact EvS.neg (by rw [decide_eq_false (by unfold VE; dsimp only; omega)]; simp) (EvS.now rfl)
        · rw [if_neg g4]
          exact EvS.pos (decide_eq_true (by unfold VE; dsimp only; omega)) (EvS.pos (by omega) (ih _ _ h.next (by simp; omega)))
      · rw [if_neg g3]
        refine EvS.neg g3 (EvS.call (spec_validEntry_eq _ _ _ _) ?_)
        by_cases g4 : y > 1000000 ∨ y < -1000000
        · rw [if_pos g4]
          exact EvS.neg (by rw [decide_eq_false (by unfold VE; dsimp only; omega)]; simp) (EvS.now rfl)
        · rw [if_neg g4]
          exact EvS.pos (decide_eq_true (by unfold VE; dsimp only; omega)) (EvS.pos (by omega) (ih _ _ h.next (by simp; omega)))

/-- What CloseTo tells. -/
def closes (l : List S33) (acc day : Int) : List S33 := if VEs l ∧ (0 ≤ acc ∧ acc ≤ 7) ∧ (0 ≤ day ∧ day ≤ 999) then closeL acc day 0 (sal l) [] else []
theorem sal_bound (l : List S33) (h : VEs l) : ∀ x ∈ sal l, -100000000 ≤ x ∧ x ≤ 100000000 := by
  have hb := delta_bound l h.2
  have hl := h.1
  intro x hx
  simp only [sal, List.mem_cons, List.not_mem_nil, or_false] at hx
  rcases hx with rfl | rfl | rfl | rfl | rfl | rfl | rfl | rfl
  · have := hb 0; omega
  · have := hb 1; omega
  · have := hb 2; omega
  · have := hb 3; omega
  · have := hb 4; omega
  · have := hb 5; omega
  · have := hb 6; omega
  · have := hb 7; omega

theorem impl_CloseTo_ok (l : List S33) (hl : l.length ≤ 2000000) (acc day : Int) : EvS (fun k => impl_CloseTo.f k l acc day) (· = closes l acc day) := by
  have jt : ¬ (VEs l ∧ (0 ≤ acc ∧ acc ≤ 7) ∧ (0 ≤ day ∧ day ≤ 999)) → EvS (fun k => impl_CloseTo.j0 k l acc day true) (· = closes l acc day) := by
    intro g
    refine EvS.step (fun k => by rw [impl_CloseTo.j0]) ?_
    exact EvS.pos rfl (EvS.now (by rw [closes, if_neg g]))
  simp only [impl_CloseTo.f]
  refine EvS.bindv (impl_ValidEntries_ok l hl) (EvS.ite (fun c1 => EvS.call (validAccount_eq acc) (EvS.ite (fun c2 => EvS.ite (fun c3 => jt (by omega)) (fun c3 => ?_)) (fun c2 => jt (by simp at c2; omega)))) (fun c1 => jt (by simp at c1; exact fun g => c1 g.1)))
  have c1 := of_decide_eq_true c1
  have c2 := of_decide_eq_true c2
  by_cases c4 : day > 999
  · rw [decide_eq_true c4]; exact jt (by omega)
  · rw [decide_eq_false c4]
    refine EvS.step (fun k => by rw [impl_CloseTo.j0]) ?_
    have e := impl_SaldiOf_ok l hl
    rw [if_pos c1] at e
    refine EvS.neg (by simp) (EvS.bindv e ?_)
    rw [closes, if_pos ⟨c1, c2, by omega⟩]
    exact impl_close_l0 acc day (sal l) rfl (sal l) 0 [] (At.zero _) (by simp)
theorem spec_CloseTo_ok (l : List S33) (hl : l.length ≤ 2000000) (acc day : Int) : EvS (fun k => spec_CloseTo.f k l acc day) (· = closes l acc day) := by
  have jt : ¬ (VEs l ∧ (0 ≤ acc ∧ acc ≤ 7) ∧ (0 ≤ day ∧ day ≤ 999)) → EvS (fun k => spec_CloseTo.j0 k l acc day true) (· = closes l acc day) := by
    intro g
    refine EvS.step (fun k => by rw [spec_CloseTo.j0]) ?_
    exact EvS.pos rfl (EvS.now (by rw [closes, if_neg g]))
  simp only [spec_CloseTo.f]
  refine EvS.bindv (spec_validEntries_ok l hl) (EvS.ite (fun c1 => EvS.call (inRange_eq acc _ _) (EvS.ite (fun c2 => EvS.call (inRange_eq day _ _) ?_) (fun c2 => jt (by simp at c2; omega)))) (fun c1 => jt (by simp at c1; exact fun g => c1 g.1)))
  have c1 := of_decide_eq_true c1
  have c2 := of_decide_eq_true c2
  by_cases c4 : 0 ≤ day ∧ day ≤ 999
  · rw [decide_eq_true c4]
    refine EvS.step (fun k => by rw [spec_CloseTo.j0]) ?_
    refine EvS.neg (by simp) (EvS.bindv (spec_saldi_ok l c1) ?_)
    rw [closes, if_pos ⟨c1, c2, c4⟩]
    exact spec_close_l0 acc day c2 c4 (sal l) rfl (sal_bound l c1) (sal l) 0 [] (At.zero _) (by simp)
  · rw [decide_eq_false c4]; exact jt (by omega)

/-! ## Equal lists. -/
/-! ## What an exact law asks of lists of the struct Entry. -/
def cvEntry (x : S60) : S33 := ⟨x.f0, x.f1, x.f2, x.f3⟩
theorem at_rdEntry {xs ys : List S33} {i : Int} {y : S33} (h : At xs i (y :: ys)) : rd_T33 xs i = y := h.getD _
theorem at_rdLEntry {xs ys : List S60} {i : Int} {y : S60} (h : At xs i (y :: ys)) : rd_T60 xs i = y := h.getD _
theorem rdEntry_set (xs : List S33) (i j : Int) (v : S33) (h0 : 0 ≤ i) (h1 : i < xs.length) (h2 : 0 ≤ j) : rd_T33 (xs.set i.toNat v) j = if i = j then v else rd_T33 xs j := by
  unfold rd_T33
  rw [List.getD_eq_getElem?_getD, List.getElem?_set]
  by_cases c : i = j
  · subst c; rw [if_pos rfl, if_pos (by omega), if_pos rfl]; rfl
  · rw [if_neg (by omega), if_neg c, List.getD_eq_getElem?_getD]
theorem listEntry_ext {xs ys : List S33} (hl : xs.length = ys.length) (h : ∀ i : Int, 0 ≤ i → i < xs.length → rd_T33 xs i = rd_T33 ys i) : xs = ys := by
  apply List.ext_getElem hl
  intro n h1 h2
  have := h n (by omega) (by omega)
  unfold rd_T33 at this
  simp only [Int.toNat_natCast] at this
  rw [List.getD_eq_getElem?_getD, List.getD_eq_getElem?_getD, List.getElem?_eq_getElem h1, List.getElem?_eq_getElem h2] at this
  exact this
theorem rdEntry_map (xs : List S60) (i : Int) (h0 : 0 ≤ i) (h1 : i < xs.length) : rd_T33 (xs.map cvEntry) i = cvEntry (rd_T60 xs i) := by
  unfold rd_T33 rd_T60
  rw [List.getD_eq_getElem?_getD, List.getD_eq_getElem?_getD, List.getElem?_map, List.getElem?_eq_getElem (show i.toNat < xs.length by omega)]
  rfl
theorem szEntry_eq (xs : List S60) (c : Int) (h0 : 0 ≤ c) (h1 : c ≤ 1048576) (hx : xs.length ≤ 9223372036854775807) : laws_szEntryS.f xs c = some (if c - xs.length < 0 then -1 else c - xs.length) := by
  unfold laws_szEntryS.f
  rw [w64 (x := c - (xs.length : Int)) (by omega) (by omega)]
  split <;> rfl
theorem toEntryS_l0 (xs : List S60) (hl : xs.length ≤ 4000000) (ys : List S60) : ∀ (i : Int) (s : List S33), At xs i ys → s.length = xs.length → (∀ j : Int, 0 ≤ j → j < i → rd_T33 s j = cvEntry (rd_T60 xs j)) → EvS (fun k => laws_toEntryS.l0 k xs s i) (· = xs.map cvEntry) := by
  induction ys with
  | nil =>
    intro i s h h1 h2
    have := h.ge
    refine EvS.step (fun k => by rw [laws_toEntryS.l0]) ?_
    exact EvS.neg (by omega) (EvS.now (listEntry_ext (by rw [List.length_map, h1]) (fun j j0 j1 => by rw [h2 j j0 (by omega), rdEntry_map xs j j0 (by omega)])))
  | cons y ys ih =>
    intro i s h h1 h2
    have g1 := h.lt
    have g2 := h.nonneg
    refine EvS.step (fun k => by rw [laws_toEntryS.l0]) ?_
    refine EvS.pos h.lt (EvS.pos h.nonneg (EvS.call (by unfold laws_toEntry.f; rfl) (EvS.pos (by omega) ?_)))
    rw [at_rdLEntry h, w64 (by omega) (by omega)]
    refine ih _ _ h.next (by simpa using h1) (fun j j0 j1 => ?_)
    rw [rdEntry_set _ _ _ _ g2 (by omega) j0]
    by_cases e : i = j
    · subst e; rw [if_pos rfl, at_rdLEntry h]; rfl
    · rw [if_neg e]; exact h2 j j0 (by omega)
theorem toEntryS_ok (xs : List S60) (hl : xs.length ≤ 4000000) : EvS (fun k => laws_toEntryS.f k xs) (· = xs.map cvEntry) := by
  simp only [laws_toEntryS.f]
  exact EvS.pos (by omega) (EvS.pos (by omega) (toEntryS_l0 xs hl xs 0 _ (At.zero _) (by simp) (fun j j0 j1 => by omega)))
theorem eqEntry_self (x : S33) : laws_eqEntry.f x.f0 x.f1 x.f2 x.f3 x.f0 x.f1 x.f2 x.f3 = some true := by
  unfold laws_eqEntry.f
  simp
theorem eqEntryS_l0 (xs : List S33) (hl : xs.length ≤ 4000000) (ys : List S33) : ∀ i : Int, At xs i ys → EvS (fun k => laws_eqEntryS.l0 k xs xs i) (· = true) := by
  induction ys with
  | nil =>
    intro i h
    refine EvS.step (fun k => by rw [laws_eqEntryS.l0]) ?_
    exact EvS.neg (by have := h.ge; omega) (EvS.now rfl)
  | cons y ys ih =>
    intro i h
    refine EvS.step (fun k => by rw [laws_eqEntryS.l0]) ?_
    exact EvS.pos h.lt (EvS.pos h.nonneg (EvS.pos h.lt (EvS.call (eqEntry_self _) (EvS.pos rfl (ih _ (h.wnext (by omega)))))))
theorem eqEntryS_ok (xs : List S33) (hl : xs.length ≤ 4000000) : EvS (fun k => laws_eqEntryS.f k xs xs) (· = true) := by
  simp only [laws_eqEntryS.f]
  exact EvS.pos (by trivial) (eqEntryS_l0 xs hl xs 0 (At.zero xs))
structure MarkedEntry (k : Int) (n : Nat) (m : List S33) : Prop where
  len : m.length = n
  val : ∀ j : Int, 0 ≤ j → j < n → rd_T33 m j = ⟨k + 4 * j, k + 4 * j + 1, k + 4 * j + 2, k + 4 * j + 3⟩
theorem markEntryS_l0 (n : Nat) (hn : n ≤ 4000000) (k0 : Int) (h0 : 0 ≤ k0) (h1 : k0 ≤ 1099511627776) (d : Nat) : ∀ (i : Int) (m : List S33), i + d = n → 0 ≤ i → m.length = n → (∀ j : Int, 0 ≤ j → j < i → rd_T33 m j = ⟨k0 + 4 * j, k0 + 4 * j + 1, k0 + 4 * j + 2, k0 + 4 * j + 3⟩) →
    EvS (fun k => laws_markEntryS.l0 k m (k0 + 4 * i) i) (fun r => r.1 = k0 + 4 * n ∧ MarkedEntry k0 n r.2) := by
  induction d with
  | zero =>
    intro i m e1 e2 e3 e4
    refine EvS.step (fun k => by rw [laws_markEntryS.l0]) ?_
    exact EvS.neg (by omega) (EvS.now ⟨by dsimp only; omega, e3, fun j j0 j1 => e4 j j0 (by omega)⟩)
  | succ d ih =>
    intro i m e1 e2 e3 e4
    have self : ∀ (l : List S33) (v : S33), l.length = n → rd_T33 (l.set i.toNat v) i = v := fun l v hl => by rw [rdEntry_set _ _ _ _ e2 (by omega) e2, if_pos rfl]
    refine EvS.step (fun k => by rw [laws_markEntryS.l0]) ?_
    refine EvS.pos (by omega) (EvS.pos e2 ?_)
    refine EvS.onsome (EvS.onsome (EvS.onsome (?_)))
    simp only [List.set_set, self m _ e3]
    rw [w64 (x := k0 + 4 * i + 1) (by omega) (by omega), w64 (x := k0 + 4 * i + 1 + 1) (by omega) (by omega), w64 (x := k0 + 4 * i + 1 + 1 + 1) (by omega) (by omega), w64 (x := k0 + 4 * i + 1 + 1 + 1 + 1) (by omega) (by omega), w64 (x := i + 1) (by omega) (by omega)]
    rw [show k0 + 4 * i + 1 + 1 + 1 + 1 = k0 + 4 * (i + 1) by omega]
    refine ih _ _ (by omega) (by omega) (by simpa using e3) (fun j j0 j1 => ?_)
    rw [rdEntry_set _ _ _ _ e2 (by omega) j0]
    by_cases e : i = j
    · subst e; rw [if_pos rfl]; simp only [Int.add_assoc]; rfl
    · rw [if_neg e]; exact e4 j j0 (by omega)
theorem markEntryS_ok (xs : List S33) (hl : xs.length ≤ 4000000) (k0 : Int) (h0 : 0 ≤ k0) (h1 : k0 ≤ 1099511627776) : EvS (fun k => laws_markEntryS.f k xs k0) (fun r => r.1 = k0 + 4 * xs.length ∧ MarkedEntry k0 xs.length r.2) := by
  simp only [laws_markEntryS.f]
  have := markEntryS_l0 xs.length hl k0 h0 h1 xs.length 0 xs (by omega) (by omega) rfl (fun j j0 j1 => by omega)
  rw [show k0 + 4 * 0 = k0 by omega] at this
  exact this
theorem heldEntryS_l0 (n : Nat) (hn : n ≤ 4000000) (k0 : Int) (h0 : 0 ≤ k0) (h1 : k0 ≤ 1099511627776) (m : List S33) (hm : MarkedEntry k0 n m) (d : Nat) : ∀ i : Int, i + d = n → 0 ≤ i → EvS (fun k => laws_heldEntryS.l0 k m (k0 + 4 * i) i) (· = k0 + 4 * n) := by
  have e3 := hm.len
  induction d with
  | zero =>
    intro i e1 e2
    refine EvS.step (fun k => by rw [laws_heldEntryS.l0]) ?_
    exact EvS.neg (by omega) (EvS.now (by omega))
  | succ d ih =>
    intro i e1 e2
    have hv := hm.val i e2 (by omega)
    refine EvS.step (fun k => by rw [laws_heldEntryS.l0]) ?_
    rw [hv]
    rw [w64 (x := k0 + 4 * i + 1) (by omega) (by omega), w64 (x := k0 + 4 * i + 1 + 1) (by omega) (by omega), w64 (x := k0 + 4 * i + 1 + 1 + 1) (by omega) (by omega), w64 (x := k0 + 4 * i + 1 + 1 + 1 + 1) (by omega) (by omega), w64 (x := i + 1) (by omega) (by omega)]
    refine EvS.pos (by omega) (EvS.pos e2 (EvS.pos (by first | rfl | (dsimp only; omega)) (EvS.pos (by first | rfl | (dsimp only; omega)) (EvS.pos (by first | rfl | (dsimp only; omega)) (EvS.pos (by first | rfl | (dsimp only; omega)) ?_)))))
    rw [show k0 + 4 * i + 1 + 1 + 1 + 1 = k0 + 4 * (i + 1) by omega]
    exact ih _ (by omega) (by omega)
theorem heldEntryS_ok (n : Nat) (hn : n ≤ 4000000) (k0 : Int) (h0 : 0 ≤ k0) (h1 : k0 ≤ 1099511627776) (m : List S33) (hm : MarkedEntry k0 n m) : EvS (fun k => laws_heldEntryS.f k m k0) (· = k0 + 4 * n) := by
  simp only [laws_heldEntryS.f]
  have := heldEntryS_l0 n hn k0 h0 h1 m hm n 0 (by omega) (by omega)
  rw [show k0 + 4 * 0 = k0 by omega] at this
  exact this
def G60 (x : S60) : Prop := ((Lit.int .i64 x.f0).wf = true) ∧ ((Lit.int .i64 x.f1).wf = true) ∧ ((Lit.int .i64 x.f2).wf = true) ∧ ((Lit.int .i64 x.f3).wf = true)
theorem closeL_len (acc day : Int) (ys : List Int) : ∀ (i : Int) (out : List S33), (closeL acc day i ys out).length ≤ out.length + ys.length := by
  induction ys with
  | nil => intro i out; simp [closeL]
  | cons y ys ih =>
    intro i out
    simp only [closeL, List.length_cons]
    repeat' split
    all_goals first | (have := ih (i + 1) out; omega) | (refine Nat.le_trans (ih _ _) ?_; simp; omega) | simp
theorem closes_len (l : List S33) (acc day : Int) : (closes l acc day).length ≤ 8 := by
  unfold closes
  split
  · exact closeL_len acc day (sal l) 0 []
  · simp
theorem FnExactCloseTo (l0 : List S60) (g0 : l0.length ≤ 9223372036854775807 ∧ ∀ y0 ∈ l0, G60 y0) (a1 : Int) (g1 : (Lit.int .i64 a1).wf = true) (a2 : Int) (g2 : (Lit.int .i64 a2).wf = true) : ∃ k, laws_FnExactCloseTo.f k l0 a1 a2 = some true := by
  refine EvS.holds ?_
  simp only [laws_FnExactCloseTo.f]
  refine EvS.call (szEntry_eq l0 1048576 (by omega) (by omega) g0.1) ?_
  by_cases c : (1048576 : Int) - l0.length < 0
  · rw [if_pos c]; exact EvS.pos (by omega) (EvS.now rfl)
  · rw [if_neg c]
    have hl : l0.length ≤ 1048576 := by omega
    have hto := toEntryS_ok l0 (by omega)
    have hml : (l0.map cvEntry).length = l0.length := List.length_map _
    have he := eqEntryS_ok (closes (l0.map cvEntry) a1 a2) (by have := closes_len (l0.map cvEntry) a1 a2; omega)
    refine EvS.neg c (EvS.bindv hto (EvS.bindv (spec_CloseTo_ok _ (by omega) a1 a2) (EvS.bindv hto (EvS.bindv (impl_CloseTo_ok _ (by omega) a1 a2) (EvS.bindv he (EvS.pos rfl (EvS.bindv hto (EvS.bindv (eqEntryS_ok _ (by omega)) (EvS.pos rfl ?_)))))))))
    refine EvS.bind (markEntryS_ok _ (by omega) 1 (by omega) (by omega)) (fun m1 hm1 => EvS.neg (by omega) (EvS.bindv he ?_))
    refine EvS.step (fun k => by rw [laws_FnExactCloseTo.j0]) ?_
    refine EvS.neg (by simp) (EvS.bind (markEntryS_ok _ (by have := closes_len (l0.map cvEntry) a1 a2; omega) 1 (by omega) (by omega)) (fun m2 hm2 => ?_))
    have hd := heldEntryS_ok _ (by have := closes_len (l0.map cvEntry) a1 a2; omega) 1 (by omega) (by omega) m2.2 hm2.2
    rw [← hm2.1] at hd
    have h2 := hm2.1
    refine EvS.bindv hd (EvS.neg (by omega) (EvS.pos rfl (EvS.bindv hto (EvS.bindv (impl_CloseTo_ok _ (by omega) a1 a2) (EvS.bindv he (EvS.pos rfl (EvS.bindv hd (EvS.neg (by omega) (EvS.pos rfl (EvS.now rfl))))))))))
end Go.Proofs.Ytgapjelooefofaa.Pure
