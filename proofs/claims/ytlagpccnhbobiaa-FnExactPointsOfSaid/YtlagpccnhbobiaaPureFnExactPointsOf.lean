/- PointsOf is what the reference tells, for every ranking; and what it gives lies apart from what it was given. Conditions: none. -/
import Derived.Test.YtlagpccnhbobiaaMFnExactPointsOfx0
import Derived.Test.YtlagpccnhbobiaaMFnExactPointsOfx1
import Derived.Test.YtlagpccnhbobiaaMFnExactPointsOfx2
import Derived.Test.YtlagpccnhbobiaaMFnExactPointsOfx3
import Derived.Test.YtlagpccnhbobiaaMFnExactPointsOfx4
import Derived.Test.YtlagpccnhbobiaaMFnExactPointsOfx5
import Derived.Test.YtlagpccnhbobiaaBase
set_option linter.unusedVariables false
set_option linter.unusedSimpArgs false
namespace Go.Proofs.Ytlagpccnhbobiaa.Pure
open Go.RowKit Go.Proofs.Ytlagpccnhbobiaa.PFnExactPointsOf Go.Proofs.YtlagpccnhbobiaaW.PrintWords Go.Proofs.YtlagpccnhbobiaaW.PrintLast Go.Proofs.YtlagpccnhbobiaaW.PrintMore Go.Proofs.Ytlagpccnhbobiaa.Base
theorem u8_range {x : Int} (h : (Lit.int .u8 x).wf = true) : 0 ≤ x ∧ x ≤ 255 := by
  simp [Lit.wf, IntKind.min, IntKind.max, IntKind.bits, IntKind.signed] at h
  omega
/-! ## Lists of numbers. -/
theorem inRange_eq (n lo hi : Int) : spec_inRange.f n lo hi = some (decide (lo ≤ n ∧ n ≤ hi)) := by
  unfold spec_inRange.f
  split
  · exact congrArg some (decide_eq_decide.2 (by omega))
  · exact congrArg some (decide_eq_false (by omega)).symm
def AllW (xs : List Int) (lo hi : Int) : Prop := ∀ x ∈ xs, lo ≤ x ∧ x ≤ hi
instance (xs : List Int) (lo hi : Int) : Decidable (AllW xs lo hi) := by unfold AllW; infer_instance
theorem allW_cons (y : Int) (ys : List Int) (lo hi : Int) : AllW (y :: ys) lo hi ↔ (lo ≤ y ∧ y ≤ hi) ∧ AllW ys lo hi := by
  unfold AllW; simp
/-- The first place of a number, counted from i on; -1 if it is not there. -/
def posF (v : Int) : Int → List Int → Int
  | _, [] => -1
  | i, x :: xs => if x = v then i else posF v (i + 1) xs
theorem posF_range (v : Int) (xs : List Int) : ∀ i : Int, 0 ≤ i → (v ∈ xs → i ≤ posF v i xs ∧ posF v i xs < i + xs.length) ∧ (v ∉ xs → posF v i xs = -1) := by
  induction xs with
  | nil => intro i h0; exact ⟨fun h => by simp at h, fun _ => rfl⟩
  | cons x xs ih =>
    intro i h0
    have h := ih (i + 1) (by omega)
    simp only [posF, List.length_cons]
    by_cases c : x = v
    · rw [if_pos c]; exact ⟨fun _ => by omega, fun g => absurd (by simp [c]) g⟩
    · rw [if_neg c]
      refine ⟨fun g => ?_, fun g => h.2 (fun g2 => g (List.mem_cons_of_mem _ g2))⟩
      have := h.1 ((List.mem_cons.1 g).resolve_left (fun e => c e.symm))
      omega
theorem posF_nonneg (v : Int) (xs : List Int) (i : Int) (h : 0 ≤ i) : (0 ≤ posF v i xs) ↔ v ∈ xs := by
  by_cases c : v ∈ xs
  · have := (posF_range v xs i h).1 c; exact ⟨fun _ => c, fun _ => by omega⟩
  · have := (posF_range v xs i h).2 c; exact ⟨fun g => by omega, fun g => absurd g c⟩
theorem placeIn_l0 (xs : List Int) (hl : xs.length ≤ 1099511627776) (v : Int) (ys : List Int) : ∀ i : Int, At xs i ys → EvS (fun k => spec_placeIn.l0 k xs v i) (· = posF v i ys) := by
  induction ys with
  | nil =>
    intro i h
    refine EvS.step (fun k => by rw [spec_placeIn.l0]) ?_
    exact EvS.neg (by have := h.ge; omega) (EvS.now rfl)
  | cons y ys ih =>
    intro i h
    have h1 := h.lt
    have h2 := h.nonneg
    have hw : wrap64 (i + 1) = i + 1 := w64 (by omega) (by omega)
    refine EvS.step (fun k => by rw [spec_placeIn.l0]) ?_
    refine EvS.pos h.lt (EvS.pos h.nonneg ?_)
    rw [At.rd h, hw, posF]
    by_cases c : y = v
    · rw [if_pos c]; exact EvS.pos c (EvS.now rfl)
    · rw [if_neg c]; exact EvS.neg c (ih _ h.next)
theorem placeIn_ok (xs : List Int) (hl : xs.length ≤ 1099511627776) (v : Int) : EvS (fun k => spec_placeIn.f k xs v) (· = posF v 0 xs) := by
  simp only [spec_placeIn.f]
  exact placeIn_l0 xs hl v xs 0 (At.zero xs)
/-- Different numbers from 0 to n - 1. -/
def Diff (xs : List Int) (n : Int) : Prop := xs.Nodup ∧ ∀ x ∈ xs, 0 ≤ x ∧ x < n
instance (xs : List Int) (n : Int) : Decidable (Diff xs n) := by unfold Diff; infer_instance
def DiffF (pre ys : List Int) (n : Int) : Prop := ys.Nodup ∧ ∀ y ∈ ys, 0 ≤ y ∧ y < n ∧ y ∉ pre
instance (pre ys : List Int) (n : Int) : Decidable (DiffF pre ys n) := by unfold DiffF; infer_instance
theorem diffF_cons (pre : List Int) (y : Int) (ys : List Int) (n : Int) : DiffF pre (y :: ys) n ↔ (0 ≤ y ∧ y < n ∧ y ∉ pre) ∧ DiffF (y :: pre) ys n := by
  unfold DiffF
  constructor
  · rintro ⟨h1, h2⟩
    have h1 := List.nodup_cons.1 h1
    refine ⟨h2 y List.mem_cons_self, h1.2, fun z hz => ?_⟩
    have := h2 z (List.mem_cons_of_mem _ hz)
    refine ⟨this.1, this.2.1, fun hm => ?_⟩
    rcases List.mem_cons.1 hm with rfl | hm
    · exact h1.1 hz
    · exact this.2.2 hm
  · rintro ⟨h1, h2, h3⟩
    refine ⟨List.nodup_cons.2 ⟨fun hm => (h3 y hm).2.2 List.mem_cons_self, h2⟩, fun z hz => ?_⟩
    rcases List.mem_cons.1 hz with rfl | hz
    · exact h1
    · have := h3 z hz
      exact ⟨this.1, this.2.1, fun hm => this.2.2 (List.mem_cons_of_mem _ hm)⟩
theorem diffF_congr {p q ys : List Int} {n : Int} (h : ∀ x, x ∈ p ↔ x ∈ q) : DiffF p ys n ↔ DiffF q ys n := by
  unfold DiffF
  simp only [h]
theorem diffF_nil (xs : List Int) (n : Int) : DiffF [] xs n ↔ Diff xs n := by
  unfold DiffF Diff; simp
theorem diff_len {xs : List Int} {n : Int} (h : Diff xs n) : (xs.length : Int) ≤ n ∨ xs = [] := by
  rcases xs with _ | ⟨x, xs⟩
  · exact .inr rfl
  · left
    have h1 : 0 ≤ n := by have := h.2 x List.mem_cons_self; omega
    have h2 : (x :: xs) ⊆ (List.range n.toNat).map (fun m : Nat => (m : Int)) := by
      intro y hy
      have := h.2 y hy
      exact List.mem_map.2 ⟨y.toNat, List.mem_range.2 (by omega), by omega⟩
    have h3 := h.1.length_le_of_subset h2
    rw [List.length_map, List.length_range] at h3
    omega
theorem differentBelow_l0 (xs : List Int) (hl : xs.length ≤ 1099511627776) (n : Int) (ys : List Int) : ∀ (i : Int) (seen : List Bool) (pre : List Int), At xs i ys → (seen.length : Int) = n → (∀ v : Int, 0 ≤ v → v < n → (rdOf false seen v = true ↔ v ∈ pre)) →
    EvS (fun k => impl_differentBelow.l0 k n seen xs xs.length i) (· = decide (DiffF pre ys n)) := by
  induction ys with
  | nil =>
    intro i seen pre h hs hv
    refine EvS.step (fun k => by rw [impl_differentBelow.l0]) ?_
    exact EvS.neg (by have := h.ge; omega) (EvS.now (by simp [DiffF]))
  | cons y ys ih =>
    intro i seen pre h hs hv
    refine EvS.step (fun k => by rw [impl_differentBelow.l0]) ?_
    refine EvS.pos h.lt (EvS.pos h.nonneg (EvS.pos h.lt ?_))
    rw [At.rd h]
    refine EvS.ite (fun c => EvS.now (decide_eq_false (fun g => by have := ((diffF_cons _ _ _ _).1 g).1; omega)).symm) (fun c1 => EvS.ite (fun c => EvS.now (decide_eq_false (fun g => by have := ((diffF_cons _ _ _ _).1 g).1; omega)).symm) (fun c2 => EvS.pos (by omega) (EvS.pos (by omega) ?_)))
    have hy := hv y (by omega) (by omega)
    refine EvS.ite (fun c => EvS.now (decide_eq_false (fun g => ((diffF_cons _ _ _ _).1 g).1.2.2 (hy.1 c))).symm) (fun c3 => ?_)
    refine EvS.mono (ih _ (seen.set y.toNat true) (y :: pre) (h.wnext (by omega)) (by simpa using hs) (fun v h0 h1 => ?_)) (fun r hr => ?_)
    · unfold rdOf
      rw [List.getD_eq_getElem?_getD, List.getElem?_set]
      by_cases e : y = v
      · subst e
        rw [if_pos rfl, if_pos (by omega)]
        exact ⟨fun _ => List.mem_cons_self, fun _ => rfl⟩
      · rw [if_neg (by omega)]
        have := hv v h0 h1
        unfold rdOf at this
        rw [List.getD_eq_getElem?_getD] at this
        rw [this, List.mem_cons]
        exact ⟨fun g => .inr g, fun g => g.resolve_left (fun e2 => e e2.symm)⟩
    · rw [hr]
      exact decide_eq_decide.2 ⟨fun g => (diffF_cons _ _ _ _).2 ⟨⟨by omega, by omega, fun hm => c3 (hy.2 hm)⟩, g⟩, fun g => ((diffF_cons _ _ _ _).1 g).2⟩
theorem differentBelow_ok (xs : List Int) (hl : xs.length ≤ 1099511627776) (n : Int) (hn : n ≤ 1099511627776) (h0 : 0 ≤ n) : EvS (fun k => impl_differentBelow.f k xs n) (· = decide (Diff xs n)) := by
  simp only [impl_differentBelow.f]
  refine EvS.ite (fun c => EvS.now (decide_eq_false (fun g => ?_)).symm) (fun c => EvS.pos h0 (EvS.pos (by omega) ?_))
  · rcases diff_len g with h | h
    · omega
    · subst h; simp at c; omega
  · refine EvS.mono (differentBelow_l0 xs hl n xs 0 _ [] (At.zero xs) (by simp; omega) (fun v _ _ => ?_)) (fun r hr => ?_)
    · unfold rdOf
      rw [List.getD_eq_getElem?_getD, List.getElem?_replicate]
      split <;> simp
    · rw [hr]
      exact decide_eq_decide.2 (diffF_nil xs n)
theorem validMembers_l0 (xs : List Int) (hl : xs.length ≤ 1099511627776) (n : Int) (hn : n ≤ 1099511627776) (h0 : 0 ≤ n) (ys : List Int) : ∀ i : Int, At xs i ys → EvS (fun k => spec_validMembers.l0 k xs n i) (· = decide (DiffF (xs.take i.toNat) ys n)) := by
  induction ys with
  | nil =>
    intro i h
    refine EvS.step (fun k => by rw [spec_validMembers.l0]) ?_
    exact EvS.neg (by have := h.ge; omega) (EvS.now (by simp [DiffF]))
  | cons y ys ih =>
    intro i h
    have h1 := h.lt
    have h2 := h.nonneg
    have hw : wrap64 (i + 1) = i + 1 := w64 (by omega) (by omega)
    refine EvS.step (fun k => by rw [spec_validMembers.l0]) ?_
    refine EvS.pos h.lt (EvS.pos h.nonneg ?_)
    rw [At.rd h, hw, w64 (x := n - 1) (by omega) (by omega)]
    refine EvS.call (inRange_eq _ _ _) (EvS.ite (fun c => EvS.pos (by omega) ?_) (fun c => EvS.now ?_))
    · have c := of_decide_eq_true c
      refine EvS.bindv (placeIn_ok _ (by rw [List.length_take]; omega) y) ?_
      have hp := posF_nonneg y (xs.take i.toNat) 0 (by omega)
      refine EvS.ite (fun g => EvS.now (decide_eq_false (fun g2 => ((diffF_cons _ _ _ _).1 g2).1.2.2 (hp.1 g))).symm) (fun g => ?_)
      refine EvS.mono (ih _ h.next) (fun r hr => ?_)
      rw [hr]
      refine decide_eq_decide.2 (Iff.trans (diffF_congr (q := y :: xs.take i.toNat) (fun x => ?_)) ⟨fun g2 => (diffF_cons _ _ _ _).2 ⟨⟨c.1, by omega, fun hm => g (hp.2 hm)⟩, g2⟩, fun g2 => ((diffF_cons _ _ _ _).1 g2).2⟩)
      simp only [h.take, List.mem_append, List.mem_cons, List.not_mem_nil, or_false]
      exact or_comm
    · have c := ndec c
      exact (decide_eq_false (fun g => c (by have := ((diffF_cons _ _ _ _).1 g).1; omega))).symm
theorem validMembers_ok (xs : List Int) (hl : xs.length ≤ 1099511627776) (n : Int) (hn : n ≤ 1099511627776) (h0 : 0 ≤ n) : EvS (fun k => spec_validMembers.f k xs n) (· = decide (Diff xs n)) := by
  simp only [spec_validMembers.f]
  refine EvS.mono (validMembers_l0 xs hl n hn h0 xs 0 (At.zero xs)) (fun r hr => ?_)
  rw [hr]
  exact decide_eq_decide.2 (diffF_nil xs n)
/-! ## Bodies that vote. -/
def tot : List Int → Int
  | [] => 0
  | x :: xs => x + tot xs
theorem tot_range {xs : List Int} {hi : Int} (h0 : 0 ≤ hi) (h : AllW xs 0 hi) : 0 ≤ tot xs ∧ tot xs ≤ xs.length * hi := by
  induction xs with
  | nil => simp [tot]
  | cons x xs ih =>
    have h1 := (allW_cons _ _ _ _).1 h
    have h2 := ih h1.2
    simp only [tot, List.length_cons, Int.natCast_add, Int.add_mul]
    omega
theorem tot_bound {xs : List Int} (h : ∀ x ∈ xs, -1000000000000 ≤ x ∧ x ≤ 1000000000000) : -(1000000000000 * (xs.length : Int)) ≤ tot xs ∧ tot xs ≤ 1000000000000 * xs.length := by
  induction xs with
  | nil => simp [tot]
  | cons x xs ih =>
    have h1 := h x List.mem_cons_self
    have h2 := ih (fun y hy => h y (List.mem_cons_of_mem _ hy))
    simp only [tot, List.length_cons]
    omega
/-! ## Rankings. -/
def rowN (xs : List (List Int)) : Int := ((rd_L1 xs 0).length : Int)
def VR (xs : List (List Int)) : Prop := (1 ≤ xs.length ∧ xs.length ≤ 12) ∧ (1 ≤ rowN xs ∧ rowN xs ≤ 6) ∧ ∀ r ∈ xs, (r.length : Int) = rowN xs ∧ Diff r (rowN xs)
instance (xs : List (List Int)) : Decidable (VR xs) := by unfold VR; infer_instance
def ShR (xs : List (List Int)) : Prop := xs.length ≤ 2000000 ∧ ∀ r ∈ xs, r.length ≤ 2000000
theorem at_rdR {xs ys : List (List Int)} {i : Int} {y : List Int} (h : At xs i (y :: ys)) : rd_L1 xs i = y := h.getD _
theorem all_cons {α : Type} {P : α → Prop} {y : α} {ys : List α} (h : P y) : (∀ e ∈ y :: ys, P e) ↔ ∀ e ∈ ys, P e :=
  ⟨fun g e he => g e (List.mem_cons_of_mem _ he), fun g e he => by rcases List.mem_cons.1 he with rfl | he; exact h; exact g e he⟩
theorem rowN_range {xs : List (List Int)} (h : ShR xs) : 0 ≤ rowN xs ∧ rowN xs ≤ 2000000 := by
  unfold rowN
  refine ⟨by omega, ?_⟩
  cases xs with
  | nil => show (([] : List Int).length : Int) ≤ 2000000; simp
  | cons r l => have := h.2 r List.mem_cons_self; show (r.length : Int) ≤ 2000000; omega
theorem impl_ValidRanks_l0 (xs : List (List Int)) (hl : ShR xs) (ys : List (List Int)) : ∀ i : Int, At xs i ys → EvS (fun k => impl_ValidRanks.l0 k (rowN xs) xs xs.length i) (· = decide (∀ r ∈ ys, (r.length : Int) = rowN xs ∧ Diff r (rowN xs))) := by
  have hxl := hl.1
  have hn := rowN_range hl
  induction ys with
  | nil =>
    intro i h
    refine EvS.step (fun k => by rw [impl_ValidRanks.l0]) ?_
    exact EvS.neg (by have := h.ge; omega) (EvS.now (by simp))
  | cons y ys ih =>
    intro i h
    have hy := hl.2 y h.mem
    refine EvS.step (fun k => by rw [impl_ValidRanks.l0]) ?_
    refine EvS.pos h.lt (EvS.pos h.nonneg (EvS.pos h.lt ?_))
    rw [at_rdR h]
    have no : ¬ ((y.length : Int) = rowN xs ∧ Diff y (rowN xs)) → false = decide (∀ r ∈ y :: ys, (r.length : Int) = rowN xs ∧ Diff r (rowN xs)) := fun g => (decide_eq_false (fun q => g (q y List.mem_cons_self))).symm
    refine EvS.ite (fun c1 => EvS.bindv (differentBelow_ok y (by omega) _ (by omega) (by omega)) (EvS.ite (fun c2 => ?_) (fun c2 => EvS.now (no (fun g => ndec c2 g.2))))) (fun c1 => EvS.now (no (fun g => c1 g.1)))
    refine EvS.mono (ih _ (h.wnext (by omega))) (fun r hr => ?_)
    rw [hr]
    exact decide_eq_decide.2 (all_cons (P := fun r : List Int => (r.length : Int) = rowN xs ∧ Diff r (rowN xs)) ⟨c1, of_decide_eq_true c2⟩).symm
theorem impl_ValidRanks_ok (xs : List (List Int)) (hl : ShR xs) : EvS (fun k => impl_ValidRanks.f k xs) (· = decide (VR xs)) := by
  have jt : ¬ VR xs → EvS (fun k => impl_ValidRanks.j0 k xs true) (· = decide (VR xs)) := by
    intro g
    refine EvS.step (fun k => by rw [impl_ValidRanks.j0]) ?_
    exact EvS.pos rfl (EvS.now (decide_eq_false g).symm)
  have jt1 : ¬ VR xs → EvS (fun k => impl_ValidRanks.j1 k xs (rowN xs) true) (· = decide (VR xs)) := by
    intro g
    refine EvS.step (fun k => by rw [impl_ValidRanks.j1]) ?_
    exact EvS.pos rfl (EvS.now (decide_eq_false g).symm)
  simp only [impl_ValidRanks.f]
  refine EvS.ite (fun c => jt (fun g => by have := g.1; omega)) (fun c1 => ?_)
  by_cases c2 : (xs.length : Int) > 12
  · rw [decide_eq_true c2]; exact jt (fun g => by have := g.1; omega)
  · rw [decide_eq_false c2]
    refine EvS.step (fun k => by rw [impl_ValidRanks.j0]) ?_
    refine EvS.neg (by simp) (EvS.pos (by omega) (EvS.ite (fun c => jt1 (fun g => by have := g.2.1; unfold rowN at this; omega)) (fun c3 => ?_)))
    by_cases c4 : rowN xs > 6
    · rw [show decide (((rd_L1 xs 0).length : Int) > 6) = true from decide_eq_true c4]; exact jt1 (fun g => by have := g.2.1; omega)
    · rw [show decide (((rd_L1 xs 0).length : Int) > 6) = false from decide_eq_false c4]
      refine EvS.step (fun k => by rw [impl_ValidRanks.j1]) ?_
      refine EvS.neg (by simp) (EvS.mono (impl_ValidRanks_l0 xs hl xs 0 (At.zero _)) (fun r hr => ?_))
      rw [hr]
      exact decide_eq_decide.2 ⟨fun g => ⟨by omega, by unfold rowN at c4 ⊢; omega, g⟩, fun g => g.2.2⟩
theorem spec_validRanks_l0 (xs : List (List Int)) (hl : ShR xs) (ys : List (List Int)) : ∀ i : Int, At xs i ys → EvS (fun k => spec_validRanks.l0 k xs i) (· = decide ((1 ≤ xs.length ∧ xs.length ≤ 12) ∧ (1 ≤ rowN xs ∧ rowN xs ≤ 6) ∧ ∀ r ∈ ys, (r.length : Int) = rowN xs ∧ Diff r (rowN xs))) := by
  have hxl := hl.1
  have hn := rowN_range hl
  induction ys with
  | nil =>
    intro i h
    refine EvS.step (fun k => by rw [spec_validRanks.l0]) ?_
    refine EvS.neg (by have := h.ge; omega) (EvS.call (inRange_eq _ _ _) (EvS.ite (fun c => ?_) (fun c => EvS.now ?_)))
    · have c := of_decide_eq_true c
      refine EvS.pos (by omega) (EvS.call (inRange_eq _ _ _) (EvS.now ?_))
      exact decide_eq_decide.2 ⟨fun g => ⟨by omega, g, by simp⟩, fun g => g.2.1⟩
    · exact (decide_eq_false (fun g => ndec c (by have := g.1; omega))).symm
  | cons y ys ih =>
    intro i h
    have hy := hl.2 y h.mem
    have hlt := h.lt
    have h0 := h.nonneg
    refine EvS.step (fun k => by rw [spec_validRanks.l0]) ?_
    refine EvS.pos h.lt (EvS.pos h.nonneg (EvS.pos (by omega) ?_))
    rw [at_rdR h]
    have no : ¬ ((y.length : Int) = rowN xs ∧ Diff y (rowN xs)) → false = decide ((1 ≤ xs.length ∧ xs.length ≤ 12) ∧ (1 ≤ rowN xs ∧ rowN xs ≤ 6) ∧ ∀ r ∈ y :: ys, (r.length : Int) = rowN xs ∧ Diff r (rowN xs)) := fun g => (decide_eq_false (fun q => g (q.2.2 y List.mem_cons_self))).symm
    refine EvS.ite (fun c1 => EvS.bindv (validMembers_ok y (by omega) (rowN xs) (by omega) (by omega)) (EvS.ite (fun c2 => ?_) (fun c2 => EvS.now (no (fun g => ndec c2 g.2))))) (fun c1 => EvS.now (no (fun g => c1 g.1)))
    refine EvS.mono (ih _ (h.wnext (by omega))) (fun r hr => ?_)
    rw [hr]
    exact decide_eq_decide.2 (and_congr_right fun _ => and_congr_right fun _ => (all_cons (P := fun r : List Int => (r.length : Int) = rowN xs ∧ Diff r (rowN xs)) ⟨c1, of_decide_eq_true c2⟩).symm)
theorem spec_validRanks_ok (xs : List (List Int)) (hl : ShR xs) : EvS (fun k => spec_validRanks.f k xs) (· = decide (VR xs)) := by
  simp only [spec_validRanks.f]
  exact spec_validRanks_l0 xs hl xs 0 (At.zero _)
/-! ## Points. -/
theorem rd_set (xs : List Int) (i j v : Int) (h0 : 0 ≤ i) (h1 : i < xs.length) (h2 : 0 ≤ j) : rd (xs.set i.toNat v) j = if i = j then v else rd xs j := by
  unfold rd
  rw [List.getD_eq_getElem?_getD, List.getElem?_set]
  by_cases c : i = j
  · subst c; rw [if_pos rfl, if_pos (by omega), if_pos rfl]; rfl
  · rw [if_neg (by omega), if_neg c, List.getD_eq_getElem?_getD]
theorem rd_zeros (n : Nat) (j : Int) : rd (List.replicate n 0) j = 0 := by
  unfold rd
  rw [List.getD_eq_getElem?_getD, List.getElem?_replicate]
  split <;> rfl
theorem list_ext {xs ys : List Int} (hl : xs.length = ys.length) (h : ∀ i : Int, 0 ≤ i → i < xs.length → rd xs i = rd ys i) : xs = ys := by
  apply List.ext_getElem hl
  intro n h1 h2
  have := h n (by omega) (by omega)
  unfold rd at this
  simp only [Int.toNat_natCast] at this
  rw [List.getD_eq_getElem?_getD, List.getD_eq_getElem?_getD, List.getElem?_eq_getElem h1, List.getElem?_eq_getElem h2] at this
  exact this
theorem tot_setN (xs : List Int) : ∀ (n : Nat) (v : Int), n < xs.length → tot (xs.set n v) = tot xs - xs.getD n 0 + v := by
  induction xs with
  | nil => intro n v h; simp at h
  | cons x xs ih =>
    intro n v h
    cases n with
    | zero => simp [tot]; omega
    | succ n =>
      have := ih n v (by simpa using h)
      simp only [List.set_cons_succ, tot, List.getD_cons_succ]
      omega
theorem tot_set (xs : List Int) (i v : Int) (h0 : 0 ≤ i) (h1 : i < xs.length) : tot (xs.set i.toNat v) = tot xs - rd xs i + v := tot_setN xs i.toNat v (by omega)
theorem tot_zeros (n : Nat) : tot (List.replicate n 0) = 0 := by
  induction n with
  | zero => rfl
  | succ n ih => simp [List.replicate_succ, tot, ih]
structure Tab (m : Int) (f : Int → Int) (s : Int) (r : List Int) : Prop where
  len : (r.length : Int) = m
  val : ∀ j : Int, 0 ≤ j → j < m → rd r j = f j
  sum : tot r = s
theorem Tab.eq {m s : Int} {f : Int → Int} {r q : List Int} (h : Tab m f s r) (g : Tab m f s q) : r = q :=
  list_ext (by have := h.len; have := g.len; omega) (fun i h0 h1 => by have := h.len; rw [h.val i h0 (by omega), g.val i h0 (by omega)])
theorem Tab.mem {m s B : Int} {f : Int → Int} {r : List Int} (h : Tab m f s r) (hf : ∀ j, 0 ≤ f j ∧ f j ≤ B) : ∀ x ∈ r, 0 ≤ x ∧ x ≤ B := by
  intro x hx
  obtain ⟨n, hn, rfl⟩ := List.mem_iff_getElem.1 hx
  have := h.val n (by omega) (by have := h.len; omega)
  have e : rd r n = r[n] := by unfold rd; rw [List.getD_eq_getElem?_getD]; simp [hn]
  rw [← e, this]; exact hf _
def rp : List Int → Int → Int
  | [], _ => 0
  | z :: zs, j => (if z = j then (zs.length : Int) else 0) + rp zs j
def tri : List Int → Int
  | [] => 0
  | _ :: zs => zs.length + tri zs
def pts : List (List Int) → Int → Int
  | [], _ => 0
  | r :: l, j => rp r j + pts l j
def triA : List (List Int) → Int
  | [] => 0
  | r :: l => tri r + triA l
theorem rp_bound (zs : List Int) (j : Int) : 0 ≤ rp zs j ∧ rp zs j ≤ zs.length * zs.length := by
  induction zs with
  | nil => simp [rp]
  | cons z zs ih =>
    simp only [rp, List.length_cons, Int.natCast_add, Int.add_mul, Int.mul_add]
    split <;> omega
theorem pts_bound {n : Int} (hn : n ≤ 6) (l : List (List Int)) (h : ∀ r ∈ l, (r.length : Int) = n) (j : Int) : 0 ≤ pts l j ∧ pts l j ≤ 36 * l.length := by
  induction l with
  | nil => simp [pts]
  | cons r l ih =>
    have h1 := ih (fun x hx => h x (List.mem_cons_of_mem _ hx))
    have h2 := h r List.mem_cons_self
    have h3 := rp_bound r j
    have h4 : (r.length : Int) * r.length ≤ 6 * 6 := Int.mul_le_mul (by omega) (by omega) (by omega) (by omega)
    simp only [pts, List.length_cons]
    omega
theorem impl_pts_l1 (xs : List (List Int)) (hv : VR xs) (y : List Int) (ys : List (List Int)) (i : Int) (h : At xs i (y :: ys))
    (K : ∀ s : List Int, (s.length : Int) = rowN xs → (∀ j : Int, 0 ≤ j → j < rowN xs → rd s j + pts ys j = pts xs j) → tot s + triA ys = triA xs → EvS (fun k => impl_PointsOf.l0 k s xs xs.length (wrap64 (i + 1))) (Tab (rowN xs) (pts xs) (triA xs))) (zs : List Int) : ∀ (q : Int) (s : List Int), At y q zs → (s.length : Int) = rowN xs → (∀ j : Int, 0 ≤ j → j < rowN xs → rd s j + (rp zs j + pts ys j) = pts xs j) → tot s + (tri zs + triA ys) = triA xs →
    EvS (fun k => impl_PointsOf.l1 k s y xs xs.length i y y.length q) (Tab (rowN xs) (pts xs) (triA xs)) := by
  have hn := hv.2.1
  have hy := hv.2.2 y h.mem
  have hbx := pts_bound hn.2 xs (fun r hr => (hv.2.2 r hr).1)
  have hby := pts_bound hn.2 ys (fun r hr => (hv.2.2 r (h.sub r (List.mem_cons_of_mem _ hr))).1)
  have hxl := hv.1
  have hyl : ys.length ≤ 12 := by have a := h.len; have b := h.nonneg; simp only [List.length_cons] at a; omega
  induction zs with
  | nil =>
    intro q s hq h8 hs ht
    have := hq.ge
    refine EvS.step (fun k => by rw [impl_PointsOf.l1]) ?_
    exact EvS.neg (by omega) (K s h8 (fun j h0 h1 => by have := hs j h0 h1; simp [rp] at this; exact this) (by simp [tri] at ht; exact ht))
  | cons z zs ih =>
    intro q s hq h8 hs ht
    have q0 := hq.nonneg
    have q1 := hq.lt
    have ql := hq.len
    have hz := hy.2.2 z hq.mem
    have hpb := rp_bound (z :: zs)
    simp only [List.length_cons] at ql
    have hm4 : ((z :: zs).length : Int) * (z :: zs).length ≤ 6 * 6 := Int.mul_le_mul (by simp only [List.length_cons]; omega) (by simp only [List.length_cons]; omega) (by omega) (by omega)
    refine EvS.step (fun k => by rw [impl_PointsOf.l1]) ?_
    refine EvS.pos q1 (EvS.pos q0 (EvS.pos q1 ?_))
    rw [At.rd hq]
    have b1 : -1000 ≤ rd s z ∧ rd s z ≤ 1000 := by have := hs z hz.1 hz.2; have := hbx z; have := hby z; have := hpb z; omega
    refine EvS.pos hz.1 (EvS.pos (by omega) ?_)
    rw [w64 (x := (y.length : Int) - 1) (by omega) (by omega), w64 (x := (y.length : Int) - 1 - q) (by omega) (by omega), w64 (x := rd s z + ((y.length : Int) - 1 - q)) (by omega) (by omega), w64 (x := q + 1) (by omega) (by omega)]
    refine ih _ _ hq.next (by simpa using h8) (fun j h0 h1 => ?_) ?_
    · rw [rd_set _ _ _ _ hz.1 (by omega) h0]
      have := hs j h0 h1
      simp only [rp] at this
      by_cases c : z = j
      · rw [if_pos c]; rw [if_pos c] at this; rw [c] at *; omega
      · rw [if_neg c]; rw [if_neg c] at this; omega
    · rw [tot_set _ _ _ hz.1 (by omega)]; simp only [tri] at ht; omega
theorem impl_pts_l0 (xs : List (List Int)) (hv : VR xs) (ys : List (List Int)) : ∀ (i : Int) (s : List Int), At xs i ys → (s.length : Int) = rowN xs → (∀ j : Int, 0 ≤ j → j < rowN xs → rd s j + pts ys j = pts xs j) → tot s + triA ys = triA xs → EvS (fun k => impl_PointsOf.l0 k s xs xs.length i) (Tab (rowN xs) (pts xs) (triA xs)) := by
  have hxl := hv.1
  induction ys with
  | nil =>
    intro i s h h8 hs ht
    refine EvS.step (fun k => by rw [impl_PointsOf.l0]) ?_
    exact EvS.neg (by have := h.ge; omega) (EvS.now ⟨h8, fun j h0 h1 => by have := hs j h0 h1; simp [pts] at this; exact this, by simp [triA] at ht; exact ht⟩)
  | cons y ys ih =>
    intro i s h h8 hs ht
    refine EvS.step (fun k => by rw [impl_PointsOf.l0]) ?_
    refine EvS.pos h.lt (EvS.pos h.nonneg (EvS.pos h.lt ?_))
    rw [at_rdR h]
    exact impl_pts_l1 xs hv y ys i h (fun s g1 g2 g3 => ih _ s (h.wnext (by omega)) g1 g2 g3) y 0 s (At.zero _) h8 (fun j h0 h1 => by have := hs j h0 h1; simp only [pts] at this; omega) (by simp only [triA] at ht; omega)
theorem impl_PointsOf_ok (xs : List (List Int)) (hl : ShR xs) : EvS (fun k => impl_PointsOf.f k xs) (fun r => if VR xs then Tab (rowN xs) (pts xs) (triA xs) r else r = []) := by
  simp only [impl_PointsOf.f]
  refine EvS.bindv (impl_ValidRanks_ok xs hl) ?_
  have hnn : rowN xs = ((rd_L1 xs 0).length : Int) := rfl
  by_cases hv : VR xs
  · simp only [if_pos hv]
    have hn := hv.2.1
    have hxl := hv.1
    exact EvS.pos (decide_eq_true hv) (EvS.pos (by omega) (EvS.pos (by omega) (EvS.pos (by omega) (impl_pts_l0 xs hv xs 0 _ (At.zero xs) (by simp; omega) (fun j _ _ => by rw [rd_zeros]; omega) (by rw [tot_zeros]; omega)))))
  · simp only [if_neg hv]
    exact EvS.neg (by simp [hv]) (EvS.now rfl)
theorem spec_pts_l1 (xs : List (List Int)) (hv : VR xs) (y : List Int) (ys : List (List Int)) (i : Int) (h : At xs i (y :: ys))
    (K : ∀ s : List Int, (s.length : Int) = rowN xs → (∀ j : Int, 0 ≤ j → j < rowN xs → rd s j + pts ys j = pts xs j) → tot s + triA ys = triA xs → EvS (fun k => spec_points.l0 k xs s (wrap64 (i + 1))) (Tab (rowN xs) (pts xs) (triA xs))) (zs : List Int) : ∀ (q : Int) (s : List Int), At y q zs → (s.length : Int) = rowN xs → (∀ j : Int, 0 ≤ j → j < rowN xs → rd s j + (rp zs j + pts ys j) = pts xs j) → tot s + (tri zs + triA ys) = triA xs →
    EvS (fun k => spec_points.l1 k xs s i q) (Tab (rowN xs) (pts xs) (triA xs)) := by
  have hn := hv.2.1
  have hy := hv.2.2 y h.mem
  have hbx := pts_bound hn.2 xs (fun r hr => (hv.2.2 r hr).1)
  have hby := pts_bound hn.2 ys (fun r hr => (hv.2.2 r (h.sub r (List.mem_cons_of_mem _ hr))).1)
  have hxl := hv.1
  have hyl : ys.length ≤ 12 := by have a := h.len; have b := h.nonneg; simp only [List.length_cons] at a; omega
  induction zs with
  | nil =>
    intro q s hq h8 hs ht
    have := hq.ge
    refine EvS.step (fun k => by rw [spec_points.l1]) ?_
    rw [at_rdR h]
    exact EvS.pos h.nonneg (EvS.pos h.lt (EvS.neg (by omega) (K s h8 (fun j h0 h1 => by have := hs j h0 h1; simp [rp] at this; exact this) (by simp [tri] at ht; exact ht))))
  | cons z zs ih =>
    intro q s hq h8 hs ht
    have q0 := hq.nonneg
    have q1 := hq.lt
    have ql := hq.len
    have hz := hy.2.2 z hq.mem
    have hpb := rp_bound (z :: zs)
    simp only [List.length_cons] at ql
    have hm4 : ((z :: zs).length : Int) * (z :: zs).length ≤ 6 * 6 := Int.mul_le_mul (by simp only [List.length_cons]; omega) (by simp only [List.length_cons]; omega) (by omega) (by omega)
    refine EvS.step (fun k => by rw [spec_points.l1]) ?_
    rw [at_rdR h]
    refine EvS.pos h.nonneg (EvS.pos h.lt (EvS.pos q1 (EvS.pos q0 ?_)))
    rw [At.rd hq]
    have b1 : -1000 ≤ rd s z ∧ rd s z ≤ 1000 := by have := hs z hz.1 hz.2; have := hbx z; have := hby z; have := hpb z; omega
    refine EvS.pos hz.1 (EvS.pos (by omega) ?_)
    rw [w64 (x := rd s z + (y.length : Int)) (by omega) (by omega), w64 (x := rd s z + (y.length : Int) - 1) (by omega) (by omega), w64 (x := rd s z + (y.length : Int) - 1 - q) (by omega) (by omega), w64 (x := q + 1) (by omega) (by omega)]
    refine ih _ _ hq.next (by simpa using h8) (fun j h0 h1 => ?_) ?_
    · rw [rd_set _ _ _ _ hz.1 (by omega) h0]
      have := hs j h0 h1
      simp only [rp] at this
      by_cases c : z = j
      · rw [if_pos c]; rw [if_pos c] at this; rw [c] at *; omega
      · rw [if_neg c]; rw [if_neg c] at this; omega
    · rw [tot_set _ _ _ hz.1 (by omega)]; simp only [tri] at ht; omega
theorem spec_pts_l0 (xs : List (List Int)) (hv : VR xs) (ys : List (List Int)) : ∀ (i : Int) (s : List Int), At xs i ys → (s.length : Int) = rowN xs → (∀ j : Int, 0 ≤ j → j < rowN xs → rd s j + pts ys j = pts xs j) → tot s + triA ys = triA xs → EvS (fun k => spec_points.l0 k xs s i) (Tab (rowN xs) (pts xs) (triA xs)) := by
  have hxl := hv.1
  induction ys with
  | nil =>
    intro i s h h8 hs ht
    refine EvS.step (fun k => by rw [spec_points.l0]) ?_
    exact EvS.neg (by have := h.ge; omega) (EvS.now ⟨h8, fun j h0 h1 => by have := hs j h0 h1; simp [pts] at this; exact this, by simp [triA] at ht; exact ht⟩)
  | cons y ys ih =>
    intro i s h h8 hs ht
    refine EvS.step (fun k => by rw [spec_points.l0]) ?_
    refine EvS.pos h.lt ?_
    exact spec_pts_l1 xs hv y ys i h (fun s g1 g2 g3 => ih _ s (h.wnext (by omega)) g1 g2 g3) y 0 s (At.zero _) h8 (fun j h0 h1 => by have := hs j h0 h1; simp only [pts] at this; omega) (by simp only [triA] at ht; omega)
theorem spec_PointsOf_ok (xs : List (List Int)) (hl : ShR xs) : EvS (fun k => spec_PointsOf.f k xs) (fun r => if VR xs then Tab (rowN xs) (pts xs) (triA xs) r else r = []) := by
  simp only [spec_PointsOf.f, spec_points.f]
  refine EvS.bindv (spec_validRanks_ok xs hl) ?_
  have hnn : rowN xs = ((rd_L1 xs 0).length : Int) := rfl
  by_cases hv : VR xs
  · simp only [if_pos hv]
    have hn := hv.2.1
    have hxl := hv.1
    exact EvS.pos (decide_eq_true hv) (EvS.bind (EvS.pos (by omega) (EvS.pos (by omega) (EvS.pos (by omega) (spec_pts_l0 xs hv xs 0 _ (At.zero xs) (by simp; omega) (fun j _ _ => by rw [rd_zeros]; omega) (by rw [tot_zeros]; omega))))) (fun r hr => EvS.now hr))
  · simp only [if_neg hv]
    exact EvS.neg (by simp [hv]) (EvS.now rfl)
/-! ## What an exact law asks of lists of numbers. -/
theorem toIntS_l0 (xs : List Int) (hl : xs.length ≤ 4000000) (ys : List Int) : ∀ (i : Int) (s : List Int), At xs i ys → s.length = xs.length → (∀ j : Int, 0 ≤ j → j < i → rd s j = rd xs j) → EvS (fun k => laws_toIntS.l0 k xs s i) (· = xs) := by
  induction ys with
  | nil =>
    intro i s h h1 h2
    have := h.ge
    refine EvS.step (fun k => by rw [laws_toIntS.l0]) ?_
    exact EvS.neg (by omega) (EvS.now (list_ext h1 (fun j j0 j1 => h2 j j0 (by omega))))
  | cons y ys ih =>
    intro i s h h1 h2
    have g1 := h.lt
    have g2 := h.nonneg
    refine EvS.step (fun k => by rw [laws_toIntS.l0]) ?_
    refine EvS.pos h.lt (EvS.pos h.nonneg (EvS.pos (by omega) ?_))
    refine ih _ _ (h.wnext (by omega)) (by simpa using h1) (fun j j0 j1 => ?_)
    rw [w64 (by omega) (by omega)] at j1
    rw [rd_set _ _ _ _ g2 (by omega) j0]
    by_cases e : i = j
    · rw [if_pos e, e]
    · rw [if_neg e]; exact h2 j j0 (by omega)
theorem toIntS_ok (xs : List Int) (hl : xs.length ≤ 4000000) : EvS (fun k => laws_toIntS.f k xs) (· = xs) := by
  simp only [laws_toIntS.f]
  exact EvS.pos (by omega) (EvS.pos (by omega) (toIntS_l0 xs hl xs 0 _ (At.zero _) (by simp) (fun j j0 j1 => by omega)))
theorem eqIntS_l0 (xs : List Int) (hl : xs.length ≤ 4000000) (ys : List Int) : ∀ i : Int, At xs i ys → EvS (fun k => laws_eqIntS.l0 k xs xs i) (· = true) := by
  induction ys with
  | nil =>
    intro i h
    refine EvS.step (fun k => by rw [laws_eqIntS.l0]) ?_
    exact EvS.neg (by have := h.ge; omega) (EvS.now rfl)
  | cons y ys ih =>
    intro i h
    refine EvS.step (fun k => by rw [laws_eqIntS.l0]) ?_
    exact EvS.pos h.lt (EvS.pos h.nonneg (EvS.pos h.lt (EvS.pos (by simp) (ih _ (h.wnext (by omega))))))
theorem eqIntS_ok (xs : List Int) (hl : xs.length ≤ 4000000) : EvS (fun k => laws_eqIntS.f k xs xs) (· = true) := by
  simp only [laws_eqIntS.f]
  exact EvS.pos (by trivial) (eqIntS_l0 xs hl xs 0 (At.zero xs))
structure Marked (k : Int) (n : Nat) (m : List Int) : Prop where
  len : m.length = n
  val : ∀ j : Int, 0 ≤ j → j < n → rd m j = k + j
theorem markIntS_l0 (n : Nat) (hn : n ≤ 4000000) (k0 : Int) (h0 : 0 ≤ k0) (h1 : k0 ≤ 1152921504606846976) (d : Nat) : ∀ (i : Int) (m : List Int), i + d = n → 0 ≤ i → m.length = n → (∀ j : Int, 0 ≤ j → j < i → rd m j = k0 + j) →
    EvS (fun k => laws_markIntS.l0 k m (k0 + i) i) (fun r => r.1 = k0 + n ∧ Marked k0 n r.2) := by
  induction d with
  | zero =>
    intro i m e1 e2 e3 e4
    refine EvS.step (fun k => by rw [laws_markIntS.l0]) ?_
    exact EvS.neg (by omega) (EvS.now ⟨by dsimp only; omega, e3, fun j j0 j1 => e4 j j0 (by omega)⟩)
  | succ d ih =>
    intro i m e1 e2 e3 e4
    refine EvS.step (fun k => by rw [laws_markIntS.l0]) ?_
    refine EvS.pos (by omega) (EvS.pos e2 ?_)
    rw [w64 (x := k0 + i + 1) (by omega) (by omega), w64 (x := i + 1) (by omega) (by omega), show k0 + i + 1 = k0 + (i + 1) by omega]
    refine ih _ _ (by omega) (by omega) (by simpa using e3) (fun j j0 j1 => ?_)
    rw [rd_set _ _ _ _ e2 (by omega) j0]
    by_cases e : i = j
    · rw [if_pos e, e]
    · rw [if_neg e]; exact e4 j j0 (by omega)
theorem markIntS_ok (xs : List Int) (hl : xs.length ≤ 4000000) (k0 : Int) (h0 : 0 ≤ k0) (h1 : k0 ≤ 1152921504606846976) : EvS (fun k => laws_markIntS.f k xs k0) (fun r => r.1 = k0 + xs.length ∧ Marked k0 xs.length r.2) := by
  simp only [laws_markIntS.f]
  have := markIntS_l0 xs.length hl k0 h0 h1 xs.length 0 xs (by omega) (by omega) rfl (fun j j0 j1 => by omega)
  rw [show k0 + 0 = k0 by omega] at this
  exact this
theorem heldIntS_l0 (n : Nat) (hn : n ≤ 4000000) (k0 : Int) (h0 : 0 ≤ k0) (h1 : k0 ≤ 1152921504606846976) (m : List Int) (hm : Marked k0 n m) (d : Nat) : ∀ i : Int, i + d = n → 0 ≤ i → EvS (fun k => laws_heldIntS.l0 k m (k0 + i) i) (· = k0 + n) := by
  have e3 := hm.len
  induction d with
  | zero =>
    intro i e1 e2
    refine EvS.step (fun k => by rw [laws_heldIntS.l0]) ?_
    exact EvS.neg (by omega) (EvS.now (by omega))
  | succ d ih =>
    intro i e1 e2
    refine EvS.step (fun k => by rw [laws_heldIntS.l0]) ?_
    refine EvS.pos (by omega) (EvS.pos e2 (EvS.pos (hm.val i e2 (by omega)) ?_))
    rw [w64 (x := k0 + i + 1) (by omega) (by omega), w64 (x := i + 1) (by omega) (by omega), show k0 + i + 1 = k0 + (i + 1) by omega]
    exact ih _ (by omega) (by omega)
theorem heldIntS_ok (n : Nat) (hn : n ≤ 4000000) (k0 : Int) (h0 : 0 ≤ k0) (h1 : k0 ≤ 1152921504606846976) (m : List Int) (hm : Marked k0 n m) : EvS (fun k => laws_heldIntS.f k m k0) (· = k0 + n) := by
  simp only [laws_heldIntS.f]
  have := heldIntS_l0 n hn k0 h0 h1 m hm n 0 (by omega) (by omega)
  rw [show k0 + 0 = k0 by omega] at this
  exact this
theorem szIntSS_l0 (xs : List (List Int)) (hx : xs.length ≤ 1048576) (hr : ∀ r ∈ xs, r.length ≤ 9223372036854775807) (ys : List (List Int)) : ∀ (i c : Int), At xs i ys → 0 ≤ c → c ≤ 1048576 → EvS (fun k => laws_szIntSS.l0 k xs c i) (fun t => t < 0 ∨ ∀ r ∈ ys, r.length ≤ 1048576) := by
  induction ys with
  | nil =>
    intro i c h h0 h1
    refine EvS.step (fun k => by rw [laws_szIntSS.l0]) ?_
    exact EvS.neg (by have := h.ge; omega) (EvS.now (.inr (by simp)))
  | cons y ys ih =>
    intro i c h h0 h1
    have hy := hr y h.mem
    refine EvS.step (fun k => by rw [laws_szIntSS.l0]) ?_
    refine EvS.pos h.lt (EvS.pos h.nonneg ?_)
    rw [at_rdR h]
    simp only [laws_szIntS.f]
    rw [w64 (x := c - (y.length : Int)) (by omega) (by omega)]
    by_cases g : c - (y.length : Int) < 0
    · simp only [if_pos g]
      exact EvS.onsome (EvS.pos (by omega) (EvS.now (.inl (by omega))))
    · simp only [if_neg g]
      refine EvS.onsome (EvS.neg g (EvS.mono (ih _ _ (h.wnext (by omega)) (by omega) (by omega)) (fun t ht => ht.imp id (fun q r hrr => ?_))))
      rcases List.mem_cons.1 hrr with rfl | hrr
      · omega
      · exact q r hrr
theorem szIntSS_ok (xs : List (List Int)) (hx : xs.length ≤ 9223372036854775807) (hr : ∀ r ∈ xs, r.length ≤ 9223372036854775807) : EvS (fun k => laws_szIntSS.f k xs 1048576) (fun t => t < 0 ∨ ShR xs) := by
  simp only [laws_szIntSS.f]
  rw [w64 (x := 1048576 - (xs.length : Int)) (by omega) (by omega)]
  refine EvS.ite (fun _ => EvS.now (.inl (by omega))) (fun c => EvS.mono (szIntSS_l0 xs (by omega) hr xs 0 _ (At.zero _) (by omega) (by omega)) (fun t ht => ht.imp id (fun q => ⟨by omega, fun r hrr => by have := q r hrr; omega⟩)))
theorem rdR_set (xs : List (List Int)) (i j : Int) (v : List Int) (h0 : 0 ≤ i) (h1 : i < xs.length) (h2 : 0 ≤ j) : rd_L1 (xs.set i.toNat v) j = if i = j then v else rd_L1 xs j := by
  unfold rd_L1
  rw [List.getD_eq_getElem?_getD, List.getElem?_set]
  by_cases c : i = j
  · subst c; rw [if_pos rfl, if_pos (by omega), if_pos rfl]; rfl
  · rw [if_neg (by omega), if_neg c, List.getD_eq_getElem?_getD]
theorem rows_ext {xs ys : List (List Int)} (hl : xs.length = ys.length) (h : ∀ i : Int, 0 ≤ i → i < xs.length → rd_L1 xs i = rd_L1 ys i) : xs = ys := by
  apply List.ext_getElem hl
  intro n h1 h2
  have := h n (by omega) (by omega)
  unfold rd_L1 at this
  simp only [Int.toNat_natCast] at this
  rw [List.getD_eq_getElem?_getD, List.getD_eq_getElem?_getD, List.getElem?_eq_getElem h1, List.getElem?_eq_getElem h2] at this
  exact this
theorem toIntSS_l0 (xs : List (List Int)) (hl : ShR xs) (ys : List (List Int)) : ∀ (i : Int) (s : List (List Int)), At xs i ys → s.length = xs.length → (∀ j : Int, 0 ≤ j → j < i → rd_L1 s j = rd_L1 xs j) → EvS (fun k => laws_toIntSS.l0 k xs s i) (· = xs) := by
  have hxl := hl.1
  induction ys with
  | nil =>
    intro i s h hs hj
    have := h.ge
    refine EvS.step (fun k => by rw [laws_toIntSS.l0]) ?_
    exact EvS.neg (by omega) (EvS.now (rows_ext hs (fun j j0 j1 => hj j j0 (by omega))))
  | cons y ys ih =>
    intro i s h hs hj
    have hy := hl.2 y h.mem
    have i0 := h.nonneg
    have i1 := h.lt
    refine EvS.step (fun k => by rw [laws_toIntSS.l0]) ?_
    refine EvS.pos i1 (EvS.pos i0 ?_)
    rw [at_rdR h]
    refine EvS.bindv (toIntS_ok y (by omega)) (EvS.pos (by omega) ?_)
    rw [w64 (x := i + 1) (by omega) (by omega)]
    refine ih _ _ h.next (by simpa using hs) (fun j j0 j1 => ?_)
    rw [rdR_set _ _ _ _ i0 (by omega) j0]
    by_cases e : i = j
    · subst e; rw [if_pos rfl, at_rdR h]
    · rw [if_neg e]; exact hj j j0 (by omega)
theorem toIntSS_ok (xs : List (List Int)) (hl : ShR xs) : EvS (fun k => laws_toIntSS.f k xs) (· = xs) := by
  have hxl := hl.1
  simp only [laws_toIntSS.f]
  exact EvS.pos (by omega) (EvS.pos (by omega) (toIntSS_l0 xs hl xs 0 _ (At.zero _) (by simp) (fun j j0 j1 => by omega)))
theorem eqIntSS_l0 (xs : List (List Int)) (hl : ShR xs) (ys : List (List Int)) : ∀ i : Int, At xs i ys → EvS (fun k => laws_eqIntSS.l0 k xs xs i) (· = true) := by
  have hxl := hl.1
  induction ys with
  | nil =>
    intro i h
    refine EvS.step (fun k => by rw [laws_eqIntSS.l0]) ?_
    exact EvS.neg (by have := h.ge; omega) (EvS.now rfl)
  | cons y ys ih =>
    intro i h
    have hy := hl.2 y h.mem
    refine EvS.step (fun k => by rw [laws_eqIntSS.l0]) ?_
    refine EvS.pos h.lt (EvS.pos h.nonneg (EvS.pos h.lt ?_))
    rw [at_rdR h]
    exact EvS.bindv (eqIntS_ok y (by omega)) (EvS.pos rfl (ih _ (h.wnext (by omega))))
theorem eqIntSS_ok (xs : List (List Int)) (hl : ShR xs) : EvS (fun k => laws_eqIntSS.f k xs xs) (· = true) := by
  simp only [laws_eqIntSS.f]
  exact EvS.pos (by trivial) (eqIntSS_l0 xs hl xs 0 (At.zero _))
theorem markIntSS_l0 (xs : List (List Int)) (hl : ShR xs) (ys : List (List Int)) : ∀ i c : Int, At xs i ys → 0 ≤ c → c ≤ 1 + 2000000 * i → EvS (fun k => laws_markIntSS.l0 k xs c i) (fun r => 0 ≤ r) := by
  have hxl := hl.1
  induction ys with
  | nil =>
    intro i c h h0 h1
    refine EvS.step (fun k => by rw [laws_markIntSS.l0]) ?_
    exact EvS.neg (by have := h.ge; omega) (EvS.now h0)
  | cons y ys ih =>
    intro i c h h0 h1
    have hy := hl.2 y h.mem
    have i0 := h.nonneg
    have i1 := h.lt
    refine EvS.step (fun k => by rw [laws_markIntSS.l0]) ?_
    rw [at_rdR h, w64 (x := i + 1) (by omega) (by omega)]
    refine EvS.pos i1 (EvS.pos i0 (EvS.bind (markIntS_ok y (by omega) c h0 (by omega)) (fun r hr => ?_)))
    have e := hr.1
    exact ih _ _ h.next (by omega) (by omega)
theorem markIntSS_ok (xs : List (List Int)) (hl : ShR xs) : EvS (fun k => laws_markIntSS.f k xs 1) (fun r => 0 ≤ r) := by
  simp only [laws_markIntSS.f]
  exact markIntSS_l0 xs hl xs 0 1 (At.zero _) (by omega) (by omega)
theorem FnExactPointsOf (l0 : List (List Int)) (g0 : l0.length ≤ 9223372036854775807 ∧ ∀ y0 ∈ l0, y0.length ≤ 9223372036854775807 ∧ ∀ y1 ∈ y0, (Lit.int .i64 y1).wf = true) : ∃ k, laws_FnExactPointsOf.f k l0 = some true := by
  refine EvS.holds ?_
  simp only [laws_FnExactPointsOf.f]
  refine EvS.bind (szIntSS_ok l0 g0.1 (fun r hr => (g0.2 r hr).1)) (fun t ht => EvS.ite (fun _ => EvS.now rfl) (fun c => ?_))
  have hl : ShR l0 := by
    rcases ht with g | g
    · exact absurd g c
    · exact g
  have to0 := toIntSS_ok l0 hl
  refine EvS.bindv to0 (EvS.bind (spec_PointsOf_ok l0 hl) (fun r2 hr2 => EvS.bindv to0 (EvS.bind (impl_PointsOf_ok l0 hl) (fun r1 hr1 => ?_))))
  have same : ∀ a b : List Int, (if VR l0 then Tab (rowN l0) (pts l0) (triA l0) a else a = []) → (if VR l0 then Tab (rowN l0) (pts l0) (triA l0) b else b = []) → a = b := by
    intro a b ha hb
    by_cases hv : VR l0
    · simp only [if_pos hv] at ha hb; exact ha.eq hb
    · simp only [if_neg hv] at ha hb; rw [ha, hb]
  obtain rfl := same _ _ hr1 hr2
  have hlen : r1.length ≤ 6 := by
    by_cases hv : VR l0
    · simp only [if_pos hv] at hr1; have := hr1.len; have := hv.2.1; omega
    · simp only [if_neg hv] at hr1; rw [hr1]; simp
  have he := eqIntS_ok r1 (by omega)
  refine EvS.bindv he (EvS.pos rfl (EvS.bindv to0 (EvS.bindv (eqIntSS_ok l0 hl) (EvS.pos rfl (EvS.bind (markIntSS_ok l0 hl) (fun m0 hm0 => EvS.neg (by omega) (EvS.bindv he ?_)))))))
  refine EvS.step (fun k => by rw [laws_FnExactPointsOf.j0]) ?_
  refine EvS.neg (by simp) (EvS.bind (markIntS_ok r1 (by omega) 1 (by omega) (by omega)) (fun m hm => ?_))
  have hd := heldIntS_ok r1.length (by omega) 1 (by omega) (by omega) m.2 hm.2
  rw [← hm.1] at hd
  have e3 := hm.1
  refine EvS.bindv hd (EvS.neg (by omega) (EvS.pos rfl (EvS.bindv to0 (EvS.bind (impl_PointsOf_ok l0 hl) (fun r3 hr3 => ?_)))))
  obtain rfl := same _ _ hr3 hr2
  exact EvS.bindv he (EvS.pos rfl (EvS.bindv hd (EvS.neg (by omega) (EvS.pos rfl (EvS.now rfl)))))
end Go.Proofs.Ytlagpccnhbobiaa.Pure
