/- The program's PayoutsOf returns what the reference's returns, for all arguments, leaves them alone and returns memory of its own. Conditions: none. -/
import Derived.Test.YtcnhjpnidfalpaaPFnExactPayoutsOfx0
import Derived.Test.YtcnhjpnidfalpaaMFnExactPayoutsOfx1
import Derived.Test.YtcnhjpnidfalpaaMFnExactPayoutsOfx2
import Derived.Test.YtcnhjpnidfalpaaMFnExactPayoutsOfx3
import Derived.Test.YtcnhjpnidfalpaaMFnExactPayoutsOfx4
import Derived.Test.YtcnhjpnidfalpaaMFnExactPayoutsOfx5
import Derived.Test.YtcnhjpnidfalpaaBase
set_option linter.unusedVariables false
set_option linter.unusedSimpArgs false
namespace Go.Proofs.Ytcnhjpnidfalpaa.Pure
open Go.RowKit Go.Proofs.Ytcnhjpnidfalpaa.PFnExactPayoutsOf Go.Proofs.YtcnhjpnidfalpaaW.PrintWords Go.Proofs.YtcnhjpnidfalpaaW.PrintLast Go.Proofs.YtcnhjpnidfalpaaW.PrintMore Go.Proofs.Ytcnhjpnidfalpaa.Base
theorem u8_range {x : Int} (h : (Lit.int .u8 x).wf = true) : 0 ≤ x ∧ x ≤ 255 := by
  simp [Lit.wf, IntKind.min, IntKind.max, IntKind.bits, IntKind.signed] at h
  omega
/-! ## Lists of numbers. -/
theorem inRange_eq (n lo hi : Int) : spec_inRange.f n lo hi = some (decide (lo ≤ n ∧ n ≤ hi)) := by
  unfold spec_inRange.f
  split
  · exact congrArg some (decide_eq_decide.2 (by omega))
  · exact congrArg some (decide_eq_false (by omega)).symm
def AllW (xs : List Int) (lo hi : Int) : Prop := ∀ x ∈ xs, lo ≤ x ∧ x ≤ hi
instance (xs : List Int) (lo hi : Int) : Decidable (AllW xs lo hi) := by unfold AllW; infer_instance
theorem allW_cons (y : Int) (ys : List Int) (lo hi : Int) : AllW (y :: ys) lo hi ↔ (lo ≤ y ∧ y ≤ hi) ∧ AllW ys lo hi := by
  unfold AllW; simp
theorem allWithin_l0 (xs : List Int) (hl : xs.length ≤ 1099511627776) (lo hi : Int) (ys : List Int) : ∀ i : Int, At xs i ys → EvS (fun k => impl_allWithin.l0 k lo hi xs xs.length i) (· = decide (AllW ys lo hi)) := by
  induction ys with
  | nil =>
    intro i h
    refine EvS.step (fun k => by rw [impl_allWithin.l0]) ?_
    exact EvS.neg (by have := h.ge; omega) (EvS.now (by simp [AllW]))
  | cons y ys ih =>
    intro i h
    refine EvS.step (fun k => by rw [impl_allWithin.l0]) ?_
    refine EvS.pos h.lt (EvS.pos h.nonneg (EvS.pos h.lt ?_))
    rw [At.rd h]
    refine EvS.ite (fun c => EvS.now (decide_eq_false (fun g => by have := (allW_cons _ _ _ _).1 g; omega)).symm) (fun c1 => EvS.ite (fun c => EvS.now (decide_eq_false (fun g => by have := (allW_cons _ _ _ _).1 g; omega)).symm) (fun c2 => ?_))
    refine EvS.mono (ih _ (h.wnext (by omega))) (fun r hr => ?_)
    rw [hr]
    exact decide_eq_decide.2 ⟨fun g => (allW_cons _ _ _ _).2 ⟨by omega, g⟩, fun g => ((allW_cons _ _ _ _).1 g).2⟩
theorem allWithin_ok (xs : List Int) (hl : xs.length ≤ 1099511627776) (lo hi : Int) : EvS (fun k => impl_allWithin.f k xs lo hi) (· = decide (AllW xs lo hi)) := by
  simp only [impl_allWithin.f]
  exact allWithin_l0 xs hl lo hi xs 0 (At.zero xs)
theorem allIn_l0 (xs : List Int) (hl : xs.length ≤ 1099511627776) (lo hi : Int) (ys : List Int) : ∀ i : Int, At xs i ys → EvS (fun k => spec_allIn.l0 k xs lo hi i) (· = decide (AllW ys lo hi)) := by
  induction ys with
  | nil =>
    intro i h
    refine EvS.step (fun k => by rw [spec_allIn.l0]) ?_
    exact EvS.neg (by have := h.ge; omega) (EvS.now (by simp [AllW]))
  | cons y ys ih =>
    intro i h
    refine EvS.step (fun k => by rw [spec_allIn.l0]) ?_
    refine EvS.pos h.lt (EvS.pos h.nonneg ?_)
    rw [At.rd h]
    refine EvS.call (inRange_eq _ _ _) (EvS.ite (fun c => ?_) (fun c => EvS.now ?_))
    · have c := of_decide_eq_true c
      refine EvS.mono (ih _ (h.wnext (by omega))) (fun r hr => ?_)
      rw [hr]
      exact decide_eq_decide.2 ⟨fun g => (allW_cons _ _ _ _).2 ⟨by omega, g⟩, fun g => ((allW_cons _ _ _ _).1 g).2⟩
    · have c := ndec c
      exact (decide_eq_false (fun g => c ((allW_cons _ _ _ _).1 g).1)).symm
theorem allIn_ok (xs : List Int) (hl : xs.length ≤ 1099511627776) (lo hi : Int) : EvS (fun k => spec_allIn.f k xs lo hi) (· = decide (AllW xs lo hi)) := by
  simp only [spec_allIn.f]
  exact allIn_l0 xs hl lo hi xs 0 (At.zero xs)
/-- The first place of a number, counted from i on; -1 if it is not there. -/
def posF (v : Int) : Int → List Int → Int
  | _, [] => -1
  | i, x :: xs => if x = v then i else posF v (i + 1) xs
theorem posF_range (v : Int) (xs : List Int) : ∀ i : Int, 0 ≤ i → (v ∈ xs → i ≤ posF v i xs ∧ posF v i xs < i + xs.length) ∧ (v ∉ xs → posF v i xs = -1) := by
  induction xs with
  | nil => intro i h0; exact ⟨fun h => by simp at h, fun _ => rfl⟩
  | cons x xs ih =>
    intro i h0
    have h := ih (i + 1) (by omega)
    simp only [posF, List.length_cons]
    by_cases c : x = v
    · rw [if_pos c]; exact ⟨fun _ => by omega, fun g => absurd (by simp [c]) g⟩
    · rw [if_neg c]
      refine ⟨fun g => ?_, fun g => h.2 (fun g2 => g (List.mem_cons_of_mem _ g2))⟩
      have := h.1 ((List.mem_cons.1 g).resolve_left (fun e => c e.symm))
      omega
theorem posF_nonneg (v : Int) (xs : List Int) (i : Int) (h : 0 ≤ i) : (0 ≤ posF v i xs) ↔ v ∈ xs := by
  by_cases c : v ∈ xs
  · have := (posF_range v xs i h).1 c; exact ⟨fun _ => c, fun _ => by omega⟩
  · have := (posF_range v xs i h).2 c; exact ⟨fun g => by omega, fun g => absurd g c⟩
theorem placeIn_l0 (xs : List Int) (hl : xs.length ≤ 1099511627776) (v : Int) (ys : List Int) : ∀ i : Int, At xs i ys → EvS (fun k => spec_placeIn.l0 k xs v i) (· = posF v i ys) := by
  induction ys with
  | nil =>
    intro i h
    refine EvS.step (fun k => by rw [spec_placeIn.l0]) ?_
    exact EvS.neg (by have := h.ge; omega) (EvS.now rfl)
  | cons y ys ih =>
    intro i h
    have h1 := h.lt
    have h2 := h.nonneg
    have hw : wrap64 (i + 1) = i + 1 := w64 (by omega) (by omega)
    refine EvS.step (fun k => by rw [spec_placeIn.l0]) ?_
    refine EvS.pos h.lt (EvS.pos h.nonneg ?_)
    rw [At.rd h, hw, posF]
    by_cases c : y = v
    · rw [if_pos c]; exact EvS.pos c (EvS.now rfl)
    · rw [if_neg c]; exact EvS.neg c (ih _ h.next)
theorem placeIn_ok (xs : List Int) (hl : xs.length ≤ 1099511627776) (v : Int) : EvS (fun k => spec_placeIn.f k xs v) (· = posF v 0 xs) := by
  simp only [spec_placeIn.f]
  exact placeIn_l0 xs hl v xs 0 (At.zero xs)
theorem index_l0 (xs : List Int) (hl : xs.length ≤ 1099511627776) (v : Int) (ys : List Int) : ∀ i : Int, At xs i ys → EvS (fun k => slices_Index_int_int.l0 k xs v xs.length i) (· = posF v i ys) := by
  induction ys with
  | nil =>
    intro i h
    refine EvS.step (fun k => by rw [slices_Index_int_int.l0]) ?_
    exact EvS.neg (by have := h.ge; omega) (EvS.now rfl)
  | cons y ys ih =>
    intro i h
    have h1 := h.lt
    have h2 := h.nonneg
    have hw : wrap64 (i + 1) = i + 1 := w64 (by omega) (by omega)
    refine EvS.step (fun k => by rw [slices_Index_int_int.l0]) ?_
    refine EvS.pos h.lt (EvS.pos h.nonneg (EvS.pos h.lt ?_))
    rw [At.rd h, hw, posF]
    by_cases c : y = v
    · rw [if_pos c]; exact EvS.pos c.symm (EvS.now rfl)
    · rw [if_neg c]; exact EvS.neg (fun g => c g.symm) (ih _ h.next)
theorem index_ok (xs : List Int) (hl : xs.length ≤ 1099511627776) (v : Int) : EvS (fun k => slices_Index_int_int.f k xs v) (· = posF v 0 xs) := by
  simp only [slices_Index_int_int.f]
  exact index_l0 xs hl v xs 0 (At.zero xs)
theorem contains_ok (xs : List Int) (hl : xs.length ≤ 1099511627776) (v : Int) : EvS (fun k => slices_Contains_int_int.f k xs v) (· = decide (v ∈ xs)) := by
  simp only [slices_Contains_int_int.f]
  exact EvS.bindv (index_ok xs hl v) (EvS.now (decide_eq_decide.2 (posF_nonneg v xs 0 (by omega))))
/-- Different numbers from 0 to n - 1. -/
def Diff (xs : List Int) (n : Int) : Prop := xs.Nodup ∧ ∀ x ∈ xs, 0 ≤ x ∧ x < n
instance (xs : List Int) (n : Int) : Decidable (Diff xs n) := by unfold Diff; infer_instance
def DiffF (pre ys : List Int) (n : Int) : Prop := ys.Nodup ∧ ∀ y ∈ ys, 0 ≤ y ∧ y < n ∧ y ∉ pre
instance (pre ys : List Int) (n : Int) : Decidable (DiffF pre ys n) := by unfold DiffF; infer_instance
theorem diffF_cons (pre : List Int) (y : Int) (ys : List Int) (n : Int) : DiffF pre (y :: ys) n ↔ (0 ≤ y ∧ y < n ∧ y ∉ pre) ∧ DiffF (y :: pre) ys n := by
  unfold DiffF
  constructor
  · rintro ⟨h1, h2⟩
    have h1 := List.nodup_cons.1 h1
    refine ⟨h2 y List.mem_cons_self, h1.2, fun z hz => ?_⟩
    have := h2 z (List.mem_cons_of_mem _ hz)
    refine ⟨this.1, this.2.1, fun hm => ?_⟩
    rcases List.mem_cons.1 hm with rfl | hm
    · exact h1.1 hz
    · exact this.2.2 hm
  · rintro ⟨h1, h2, h3⟩
    refine ⟨List.nodup_cons.2 ⟨fun hm => (h3 y hm).2.2 List.mem_cons_self, h2⟩, fun z hz => ?_⟩
    rcases List.mem_cons.1 hz with rfl | hz
    · exact h1
    · have := h3 z hz
      exact ⟨this.1, this.2.1, fun hm => this.2.2 (List.mem_cons_of_mem _ hm)⟩
theorem diffF_congr {p q ys : List Int} {n : Int} (h : ∀ x, x ∈ p ↔ x ∈ q) : DiffF p ys n ↔ DiffF q ys n := by
  unfold DiffF
  simp only [h]
theorem diffF_nil (xs : List Int) (n : Int) : DiffF [] xs n ↔ Diff xs n := by
  unfold DiffF Diff; simp
theorem diff_len {xs : List Int} {n : Int} (h : Diff xs n) : (xs.length : Int) ≤ n ∨ xs = [] := by
  rcases xs with _ | ⟨x, xs⟩
  · exact .inr rfl
  · left
    have h1 : 0 ≤ n := by have := h.2 x List.mem_cons_self; omega
    have h2 : (x :: xs) ⊆ (List.range n.toNat).map (fun m : Nat => (m : Int)) := by
      intro y hy
      have := h.2 y hy
      exact List.mem_map.2 ⟨y.toNat, List.mem_range.2 (by omega), by omega⟩
    have h3 := h.1.length_le_of_subset h2
    rw [List.length_map, List.length_range] at h3
    omega
theorem differentBelow_l0 (xs : List Int) (hl : xs.length ≤ 1099511627776) (n : Int) (ys : List Int) : ∀ (i : Int) (seen : List Bool) (pre : List Int), At xs i ys → (seen.length : Int) = n → (∀ v : Int, 0 ≤ v → v < n → (rdOf false seen v = true ↔ v ∈ pre)) →
    EvS (fun k => impl_differentBelow.l0 k n seen xs xs.length i) (· = decide (DiffF pre ys n)) := by
  induction ys with
  | nil =>
    intro i seen pre h hs hv
    refine EvS.step (fun k => by rw [impl_differentBelow.l0]) ?_
    exact EvS.neg (by have := h.ge; omega) (EvS.now (by simp [DiffF]))
  | cons y ys ih =>
    intro i seen pre h hs hv
    refine EvS.step (fun k => by rw [impl_differentBelow.l0]) ?_
    refine EvS.pos h.lt (EvS.pos h.nonneg (EvS.pos h.lt ?_))
    rw [At.rd h]
    refine EvS.ite (fun c => EvS.now (decide_eq_false (fun g => by have := ((diffF_cons _ _ _ _).1 g).1; omega)).symm) (fun c1 => EvS.ite (fun c => EvS.now (decide_eq_false (fun g => by have := ((diffF_cons _ _ _ _).1 g).1; omega)).symm) (fun c2 => EvS.pos (by omega) (EvS.pos (by omega) ?_)))
    have hy := hv y (by omega) (by omega)
    refine EvS.ite (fun c => EvS.now (decide_eq_false (fun g => ((diffF_cons _ _ _ _).1 g).1.2.2 (hy.1 c))).symm) (fun c3 => ?_)
    refine EvS.mono (ih _ (seen.set y.toNat true) (y :: pre) (h.wnext (by omega)) (by simpa using hs) (fun v h0 h1 => ?_)) (fun r hr => ?_)
    · unfold rdOf
      rw [List.getD_eq_getElem?_getD, List.getElem?_set]
      by_cases e : y = v
      · subst e
        rw [if_pos rfl, if_pos (by omega)]
        exact ⟨fun _ => List.mem_cons_self, fun _ => rfl⟩
      · rw [if_neg (by omega)]
        have := hv v h0 h1
        unfold rdOf at this
        rw [List.getD_eq_getElem?_getD] at this
        rw [this, List.mem_cons]
        exact ⟨fun g => .inr g, fun g => g.resolve_left (fun e2 => e e2.symm)⟩
    · rw [hr]
      exact decide_eq_decide.2 ⟨fun g => (diffF_cons _ _ _ _).2 ⟨⟨by omega, by omega, fun hm => c3 (hy.2 hm)⟩, g⟩, fun g => ((diffF_cons _ _ _ _).1 g).2⟩
theorem differentBelow_ok (xs : List Int) (hl : xs.length ≤ 1099511627776) (n : Int) (hn : n ≤ 1099511627776) (h0 : 0 ≤ n) : EvS (fun k => impl_differentBelow.f k xs n) (· = decide (Diff xs n)) := by
  simp only [impl_differentBelow.f]
  refine EvS.ite (fun c => EvS.now (decide_eq_false (fun g => ?_)).symm) (fun c => EvS.pos h0 (EvS.pos (by omega) ?_))
  · rcases diff_len g with h | h
    · omega
    · subst h; simp at c; omega
  · refine EvS.mono (differentBelow_l0 xs hl n xs 0 _ [] (At.zero xs) (by simp; omega) (fun v _ _ => ?_)) (fun r hr => ?_)
    · unfold rdOf
      rw [List.getD_eq_getElem?_getD, List.getElem?_replicate]
      split <;> simp
    · rw [hr]
      exact decide_eq_decide.2 (diffF_nil xs n)
theorem validMembers_l0 (xs : List Int) (hl : xs.length ≤ 1099511627776) (n : Int) (hn : n ≤ 1099511627776) (h0 : 0 ≤ n) (ys : List Int) : ∀ i : Int, At xs i ys → EvS (fun k => spec_validMembers.l0 k xs n i) (· = decide (DiffF (xs.take i.toNat) ys n)) := by
  induction ys with
  | nil =>
    intro i h
    refine EvS.step (fun k => by rw [spec_validMembers.l0]) ?_
    exact EvS.neg (by have := h.ge; omega) (EvS.now (by simp [DiffF]))
  | cons y ys ih =>
    intro i h
    have h1 := h.lt
    have h2 := h.nonneg
    have hw : wrap64 (i + 1) = i + 1 := w64 (by omega) (by omega)
    refine EvS.step (fun k => by rw [spec_validMembers.l0]) ?_
    refine EvS.pos h.lt (EvS.pos h.nonneg ?_)
    rw [At.rd h, hw, w64 (x := n - 1) (by omega) (by omega)]
    refine EvS.call (inRange_eq _ _ _) (EvS.ite (fun c => EvS.pos (by omega) ?_) (fun c => EvS.now ?_))
    · have c := of_decide_eq_true c
      refine EvS.bindv (placeIn_ok _ (by rw [List.length_take]; omega) y) ?_
      have hp := posF_nonneg y (xs.take i.toNat) 0 (by omega)
      refine EvS.ite (fun g => EvS.now (decide_eq_false (fun g2 => ((diffF_cons _ _ _ _).1 g2).1.2.2 (hp.1 g))).symm) (fun g => ?_)
      refine EvS.mono (ih _ h.next) (fun r hr => ?_)
      rw [hr]
      refine decide_eq_decide.2 (Iff.trans (diffF_congr (q := y :: xs.take i.toNat) (fun x => ?_)) ⟨fun g2 => (diffF_cons _ _ _ _).2 ⟨⟨c.1, by omega, fun hm => g (hp.2 hm)⟩, g2⟩, fun g2 => ((diffF_cons _ _ _ _).1 g2).2⟩)
      simp only [h.take, List.mem_append, List.mem_cons, List.not_mem_nil, or_false]
      exact or_comm
    · have c := ndec c
      exact (decide_eq_false (fun g => c (by have := ((diffF_cons _ _ _ _).1 g).1; omega))).symm
theorem validMembers_ok (xs : List Int) (hl : xs.length ≤ 1099511627776) (n : Int) (hn : n ≤ 1099511627776) (h0 : 0 ≤ n) : EvS (fun k => spec_validMembers.f k xs n) (· = decide (Diff xs n)) := by
  simp only [spec_validMembers.f]
  refine EvS.mono (validMembers_l0 xs hl n hn h0 xs 0 (At.zero xs)) (fun r hr => ?_)
  rw [hr]
  exact decide_eq_decide.2 (diffF_nil xs n)
/-! ## Bids. -/
def VBids (bids : List Int) (pay : Int) : Prop := (1 ≤ bids.length ∧ bids.length ≤ 12) ∧ (0 ≤ pay ∧ pay ≤ 10000) ∧ AllW bids (-1) (bids.length * pay)
instance (bids : List Int) (pay : Int) : Decidable (VBids bids pay) := by unfold VBids; infer_instance
theorem pot_bound {n pay : Int} (h : 1 ≤ n ∧ n ≤ 12) (h2 : 0 ≤ pay ∧ pay ≤ 10000) : 0 ≤ n * pay ∧ n * pay ≤ 120000 := by
  have a := Int.mul_nonneg (show 0 ≤ n by omega) h2.1
  have b : n * pay ≤ 12 * 10000 := Int.mul_le_mul h.2 h2.2 h2.1 (by omega)
  omega
theorem potOf_eq (n pay : Int) : impl_PotOf.f n pay = some (if (1 ≤ n ∧ n ≤ 12) ∧ (0 ≤ pay ∧ pay ≤ 10000) then n * pay else -1) := by
  unfold impl_PotOf.f
  by_cases h : (1 ≤ n ∧ n ≤ 12) ∧ (0 ≤ pay ∧ pay ≤ 10000)
  · have := pot_bound h.1 h.2
    rw [if_pos h, if_neg (by omega), if_neg (by omega), if_neg (by omega), if_neg (by omega), w64 (by omega) (by omega)]
  · rw [if_neg h]
    repeat' split
    all_goals first | rfl | omega
theorem impl_validBids_ok (bids : List Int) (hl : bids.length ≤ 1099511627776) (pay : Int) : EvS (fun k => impl_validBids.f k bids pay) (· = decide (VBids bids pay)) := by
  simp only [impl_validBids.f]
  refine EvS.call (potOf_eq _ _) ?_
  by_cases h : (1 ≤ (bids.length : Int) ∧ (bids.length : Int) ≤ 12) ∧ (0 ≤ pay ∧ pay ≤ 10000)
  · have := pot_bound h.1 h.2
    rw [if_pos h]
    refine EvS.pos (by omega) (EvS.bindv (allWithin_ok bids hl _ _) (EvS.now (decide_eq_decide.2 ⟨fun g => ⟨by omega, h.2, g⟩, fun g => g.2.2⟩)))
  · rw [if_neg h]
    exact EvS.neg (by omega) (EvS.now (decide_eq_false (fun g => h ⟨⟨by have := g.1; omega, by have := g.1; omega⟩, g.2.1⟩)).symm)
theorem spec_validBids_ok (bids : List Int) (hl : bids.length ≤ 1099511627776) (pay : Int) : EvS (fun k => spec_validBids.f k bids pay) (· = decide (VBids bids pay)) := by
  simp only [spec_validBids.f]
  refine EvS.call (inRange_eq _ _ _) (EvS.ite (fun c1 => EvS.call (inRange_eq _ _ _) (EvS.ite (fun c2 => ?_) (fun c2 => EvS.now ?_))) (fun c1 => EvS.now ?_))
  · have c1 := of_decide_eq_true c1
    have c2 := of_decide_eq_true c2
    have := pot_bound c1 c2
    rw [w64 (x := bids.length * pay) (by omega) (by omega)]
    exact EvS.bindv (allIn_ok bids hl _ _) (EvS.now (decide_eq_decide.2 ⟨fun g => ⟨by omega, c2, g⟩, fun g => g.2.2⟩))
  · have c2 := ndec c2
    exact (decide_eq_false (fun g => c2 g.2.1)).symm
  · have c1 := ndec c1
    exact (decide_eq_false (fun g => c1 (by have := g.1; omega))).symm

/-- The highest bidder from index i on, by the best one before. -/
def winL (bids done : List Int) : Int → List Int → Int → Int
  | _, [], best => best
  | i, y :: ys, best => if i ∉ done ∧ (best < 0 ∨ y > rd bids best) then winL bids done (i + 1) ys i else winL bids done (i + 1) ys best
def win (bids done : List Int) : Int := winL bids done 0 bids (-1)
structure Best (bids done : List Int) (i best : Int) : Prop where
  lo : -1 ≤ best
  hi : best < i
  none : best < 0 → ∀ j : Int, 0 ≤ j → j < i → j ∈ done
  free : 0 ≤ best → best ∉ done
  high : 0 ≤ best → ∀ j : Int, 0 ≤ j → j < i → j ∉ done → rd bids j ≤ rd bids best ∧ (j < best → rd bids j < rd bids best)
theorem Best.step {bids done ys : List Int} {i y best : Int} (h : At bids i (y :: ys)) (hb : Best bids done i best) : Best bids done (i + 1) (if i ∉ done ∧ (best < 0 ∨ y > rd bids best) then i else best) := by
  have h0 := h.nonneg
  have hy := At.rd h
  split
  · rename_i c
    refine ⟨by omega, by omega, fun g => by omega, fun _ => c.1, fun _ j j0 j1 jd => ?_⟩
    by_cases e : j = i
    · subst e; exact ⟨by omega, fun g => by omega⟩
    · rcases c.2 with c2 | c2
      · exact absurd (hb.none c2 j j0 (by omega)) jd
      · have := hb.high (by have := hb.lo; by_cases e2 : best = -1; · exact absurd (hb.none (by omega) j j0 (by omega)) jd
                            · omega) j j0 (by omega) jd
        rw [hy]
        exact ⟨by omega, fun _ => by omega⟩
  · rename_i c
    have hlo := hb.lo
    have hhi := hb.hi
    refine ⟨hb.lo, by omega, fun g j j0 j1 => ?_, hb.free, fun g j j0 j1 jd => ?_⟩
    · by_cases e : j = i
      · subst e; by_cases m : j ∈ done; · exact m
        · exact absurd ⟨m, .inl g⟩ c
      · exact hb.none g j j0 (by omega)
    · by_cases e : j = i
      · subst e
        have : ¬ (y > rd bids best) := fun g2 => c ⟨jd, .inr g2⟩
        rw [hy]
        exact ⟨by omega, fun g3 => by omega⟩
      · exact hb.high g j j0 (by omega) jd
theorem winL_best (bids done : List Int) (ys : List Int) : ∀ i best : Int, At bids i ys → Best bids done i best → Best bids done bids.length (winL bids done i ys best) := by
  induction ys with
  | nil => intro i best h hb; have := h.ge; subst this; exact hb
  | cons y ys ih =>
    intro i best h hb
    have := hb.step h
    rw [winL]
    split
    · rename_i c; rw [if_pos c] at this; exact ih _ _ h.next this
    · rename_i c; rw [if_neg c] at this; exact ih _ _ h.next this
theorem win_best (bids done : List Int) : Best bids done bids.length (win bids done) :=
  winL_best bids done bids 0 (-1) (At.zero _) ⟨by omega, by omega, fun _ j _ _ => by omega, fun g => by omega, fun g => by omega⟩

theorem impl_winner_l0 (bids done : List Int) (hl : bids.length ≤ 4000000) (hd : done.length ≤ 4000000) (ys : List Int) : ∀ i best : Int, At bids i ys → -1 ≤ best → best < i →
    EvS (fun k => impl_WinnerOf.l0 k bids done best bids bids.length i) (· = winL bids done i ys best) := by
  induction ys with
  | nil =>
    intro i best h h1 h2
    refine EvS.step (fun k => by rw [impl_WinnerOf.l0]) ?_
    exact EvS.neg (by have := h.ge; omega) (EvS.now rfl)
  | cons y ys ih =>
    intro i best h h1 h2
    have g1 := h.lt
    have g2 := h.nonneg
    have hw : wrap64 (i + 1) = i + 1 := w64 (by omega) (by omega)
    refine EvS.step (fun k => by rw [impl_WinnerOf.l0]) ?_
    refine EvS.pos h.lt (EvS.pos h.nonneg (EvS.pos h.lt (EvS.bindv (contains_ok done (by omega) i) ?_)))
    rw [At.rd h, hw, winL]
    by_cases c : i ∈ done
    · rw [if_neg (fun g => g.1 c)]
      exact EvS.pos (decide_eq_true c) (ih _ _ h.next (by omega) (by omega))
    · refine EvS.neg (by simp [c]) ?_
      by_cases c2 : best < 0
      · rw [if_pos ⟨c, .inl c2⟩]
        exact EvS.pos c2 (ih _ _ h.next (by omega) (by omega))
      · refine EvS.neg c2 (EvS.pos (by omega) (EvS.pos (by omega) ?_))
        by_cases c3 : y > rd bids best
        · rw [if_pos ⟨c, .inr c3⟩]
          exact EvS.pos c3 (ih _ _ h.next (by omega) (by omega))
        · rw [if_neg (by intro g; rcases g.2 with g | g; exact c2 g; exact c3 g)]
          exact EvS.neg c3 (ih _ _ h.next (by omega) (by omega))
/-- What WinnerOf tells. -/
def winner (bids : List Int) (pay : Int) (done : List Int) : Int := if VBids bids pay ∧ Diff done bids.length then win bids done else -1
theorem impl_WinnerOf_ok (bids done : List Int) (hl : bids.length ≤ 4000000) (hd : done.length ≤ 4000000) (pay : Int) : EvS (fun k => impl_WinnerOf.f k bids pay done) (· = winner bids pay done) := by
  have jt : ¬ (VBids bids pay ∧ Diff done bids.length) → EvS (fun k => impl_WinnerOf.j0 k bids done true) (· = winner bids pay done) := by
    intro g
    refine EvS.step (fun k => by rw [impl_WinnerOf.j0]) ?_
    exact EvS.pos rfl (EvS.now (by rw [winner, if_neg g]))
  simp only [impl_WinnerOf.f]
  refine EvS.bindv (impl_validBids_ok bids (by omega) pay) (EvS.ite (fun c => EvS.bindv (differentBelow_ok done (by omega) _ (by omega) (by omega)) ?_) (fun c => jt (fun g => by simp at c; exact c g.1)))
  have c := of_decide_eq_true c
  by_cases c2 : Diff done bids.length
  · rw [decide_eq_true c2]
    refine EvS.step (fun k => by rw [impl_WinnerOf.j0]) ?_
    rw [winner, if_pos ⟨c, c2⟩]
    exact EvS.neg (by simp) (impl_winner_l0 bids done hl hd bids 0 (-1) (At.zero _) (by omega) (by omega))
  · rw [decide_eq_false c2]
    exact jt (fun g => c2 g.2)
theorem spec_winner_l0 (bids done : List Int) (hl : bids.length ≤ 4000000) (hd : done.length ≤ 4000000) (ys : List Int) : ∀ i best : Int, At bids i ys → -1 ≤ best → best < i →
    EvS (fun k => spec_winner.l0 k bids done best i) (· = winL bids done i ys best) := by
  induction ys with
  | nil =>
    intro i best h h1 h2
    refine EvS.step (fun k => by rw [spec_winner.l0]) ?_
    exact EvS.neg (by have := h.ge; omega) (EvS.now rfl)
  | cons y ys ih =>
    intro i best h h1 h2
    have g1 := h.lt
    have g2 := h.nonneg
    have hw : wrap64 (i + 1) = i + 1 := w64 (by omega) (by omega)
    have hp := posF_nonneg i done 0 (by omega)
    refine EvS.step (fun k => by rw [spec_winner.l0]) ?_
    refine EvS.pos h.lt (EvS.bindv (placeIn_ok done (by omega) i) ?_)
    rw [At.rd h, hw, winL]
    by_cases c : i ∈ done
    · rw [if_neg (fun g => g.1 c)]
      exact EvS.neg (by have := hp.2 c; omega) (ih _ _ h.next (by omega) (by omega))
    · have hneg : ¬ 0 ≤ posF i 0 done := fun g => c (hp.1 g)
      refine EvS.pos (by omega) ?_
      by_cases c2 : best < 0
      · rw [if_pos ⟨c, .inl c2⟩]
        exact EvS.pos c2 (ih _ _ h.next (by omega) (by omega))
      · refine EvS.neg c2 (EvS.pos (by omega) (EvS.pos (by omega) (EvS.pos (by omega) ?_)))
        by_cases c3 : y > rd bids best
        · rw [if_pos ⟨c, .inr c3⟩]
          exact EvS.pos c3 (ih _ _ h.next (by omega) (by omega))
        · rw [if_neg (by intro g; rcases g.2 with g | g; exact c2 g; exact c3 g)]
          exact EvS.neg c3 (ih _ _ h.next (by omega) (by omega))
theorem spec_winner_ok (bids done : List Int) (hl : bids.length ≤ 4000000) (hd : done.length ≤ 4000000) : EvS (fun k => spec_winner.f k bids done) (· = win bids done) := by
  simp only [spec_winner.f]
  exact spec_winner_l0 bids done hl hd bids 0 (-1) (At.zero _) (by omega) (by omega)
/-! ## Amounts divided into equal parts. -/
theorem list_ext {xs ys : List Int} (hl : xs.length = ys.length) (h : ∀ i : Int, 0 ≤ i → i < xs.length → rd xs i = rd ys i) : xs = ys := by
  apply List.ext_getElem hl
  intro n h1 h2
  have := h n (by omega) (by omega)
  unfold rd at this
  simp only [Int.toNat_natCast] at this
  rw [List.getD_eq_getElem?_getD, List.getD_eq_getElem?_getD, List.getElem?_eq_getElem h1, List.getElem?_eq_getElem h2] at this
  exact this
theorem rd_set (xs : List Int) (i j v : Int) (h0 : 0 ≤ i) (h1 : i < xs.length) (h2 : 0 ≤ j) : rd (xs.set i.toNat v) j = if i = j then v else rd xs j := by
  unfold rd
  rw [List.getD_eq_getElem?_getD, List.getElem?_set]
  by_cases c : i = j
  · subst c; rw [if_pos rfl, if_pos (by omega), if_pos rfl]; rfl
  · rw [if_neg (by omega), if_neg c, List.getD_eq_getElem?_getD]
theorem rd_zeros (n : Nat) (j : Int) : rd (List.replicate n 0) j = 0 := by
  unfold rd
  rw [List.getD_eq_getElem?_getD, List.getElem?_replicate]
  split <;> rfl
theorem rd_snoc (xs : List Int) (v j : Int) (h0 : 0 ≤ j) : rd (xs ++ [v]) j = if j < xs.length then rd xs j else if j = xs.length then v else 0 := by
  unfold rd
  rw [List.getD_eq_getElem?_getD, List.getD_eq_getElem?_getD]
  by_cases c : j < xs.length
  · rw [if_pos c, List.getElem?_append_left (by omega)]
  · rw [if_neg c, List.getElem?_append_right (by omega)]
    by_cases c2 : j = xs.length
    · rw [if_pos c2, c2]; simp
    · rw [if_neg c2, List.getElem?_eq_none (by simp; omega)]; rfl
/-- Part i of n in p parts. -/
def sp (n p i : Int) : Int := n / p + if i < n % p then 1 else 0
theorem sp_range {n p i : Int} (hn : 0 ≤ n) (hp : 1 ≤ p) : 0 ≤ sp n p i ∧ sp n p i ≤ n + 1 := by
  have a := Int.ediv_nonneg hn (show 0 ≤ p by omega)
  have b := Int.ediv_le_self p hn
  unfold sp; split <;> omega
structure IsSplit (n p : Int) (r : List Int) : Prop where
  len : (r.length : Int) = p
  val : ∀ i : Int, 0 ≤ i → i < p → rd r i = sp n p i
theorem IsSplit.eq {n p : Int} {r s : List Int} (h : IsSplit n p r) (g : IsSplit n p s) : r = s :=
  list_ext (by have := h.len; have := g.len; omega) (fun i h0 h1 => by have := h.len; rw [h.val i h0 (by omega), g.val i h0 (by omega)])
theorem splitEven_l0 (n p : Int) (hn : 0 ≤ n) (hn2 : n ≤ 1000000) (hp : 1 ≤ p) (hp2 : p ≤ 12) (d : Nat) : ∀ (i : Int) (s : List Int), i + d = p → 0 ≤ i → (s.length : Int) = p → (∀ j : Int, 0 ≤ j → j < i → rd s j = sp n p j) →
    EvS (fun k => impl_SplitEven.l0 k n p s p i) (IsSplit n p) := by
  induction d with
  | zero =>
    intro i s h1 h2 h3 h4
    refine EvS.step (fun k => by rw [impl_SplitEven.l0]) ?_
    exact EvS.neg (by omega) (EvS.now ⟨h3, fun j j0 j1 => h4 j j0 (by omega)⟩)
  | succ d ih =>
    intro i s h1 h2 h3 h4
    have q0 := Int.ediv_nonneg hn (show 0 ≤ p by omega)
    have q1 := Int.ediv_le_self p hn
    refine EvS.step (fun k => by rw [impl_SplitEven.l0]) ?_
    refine EvS.pos (by omega) (EvS.neg (by omega) (EvS.pos h2 (EvS.pos (by omega) (EvS.onsome ?_))))
    rw [tdiv_pos _ _ hn, tmod_pos _ _ hn, w64 (x := n / p) (by omega) (by omega), w64 (x := i + 1) (by omega) (by omega), rd_set _ _ _ _ h2 (by omega) h2, if_pos rfl, w64 (x := n / p + 1) (by omega) (by omega)]
    refine EvS.ite (fun c => ih _ _ (by omega) (by omega) (by simpa using h3) (fun j j0 j1 => ?_)) (fun c => ih _ _ (by omega) (by omega) (by simpa using h3) (fun j j0 j1 => ?_))
    · rw [rd_set _ _ _ _ h2 (by simp; omega) j0, rd_set _ _ _ _ h2 (by omega) j0]
      by_cases e : i = j
      · subst e; rw [if_pos rfl, sp, if_pos c]
      · rw [if_neg e, if_neg e]; exact h4 j j0 (by omega)
    · rw [rd_set _ _ _ _ h2 (by omega) j0]
      by_cases e : i = j
      · subst e; rw [if_pos rfl, sp, if_neg c]; omega
      · rw [if_neg e]; exact h4 j j0 (by omega)
theorem splitEven_ok (n p : Int) (hn : 0 ≤ n) (hn2 : n ≤ 1000000) (hp : 1 ≤ p) (hp2 : p ≤ 12) : EvS (fun k => impl_SplitEven.f k n p) (IsSplit n p) := by
  simp only [impl_SplitEven.f]
  refine EvS.neg (by omega) (EvS.neg (by omega) (EvS.neg (by omega) ?_))
  refine EvS.step (fun k => by rw [impl_SplitEven.j0]) ?_
  refine EvS.neg (by simp; omega) (EvS.pos (by omega) (EvS.pos (by omega) (EvS.onsome ?_)))
  have hlen : ((List.replicate p.toNat (0 : Int)).length : Int) = p := by rw [List.length_replicate]; omega
  rw [hlen]
  exact splitEven_l0 n p hn hn2 hp hp2 p.toNat 0 _ (by omega) (by omega) hlen (fun j j0 j1 => by omega)
theorem splitEven_none (n p : Int) (h : ¬ ((0 ≤ n ∧ n ≤ 1000000) ∧ (1 ≤ p ∧ p ≤ 12))) : EvS (fun k => impl_SplitEven.f k n p) (· = []) := by
  have jt : EvS (fun k => impl_SplitEven.j0 k n p true) (· = []) := by
    refine EvS.step (fun k => by rw [impl_SplitEven.j0]) ?_
    exact EvS.pos rfl (EvS.now rfl)
  simp only [impl_SplitEven.f]
  refine EvS.ite (fun _ => jt) (fun c1 => EvS.ite (fun _ => jt) (fun c2 => EvS.ite (fun _ => jt) (fun c3 => ?_)))
  rw [decide_eq_true (show p > 12 by omega)]
  exact jt
theorem split_l0 (n p : Int) (hn : 0 ≤ n) (hn2 : n ≤ 1000000) (hp : 1 ≤ p) (hp2 : p ≤ 12) (d : Nat) : ∀ (i : Int) (s : List Int), i + d = p → 0 ≤ i → (s.length : Int) = i → (∀ j : Int, 0 ≤ j → j < i → rd s j = sp n p j) →
    EvS (fun k => spec_split.l0 k n p s i) (IsSplit n p) := by
  induction d with
  | zero =>
    intro i s h1 h2 h3 h4
    refine EvS.step (fun k => by rw [spec_split.l0]) ?_
    exact EvS.neg (by omega) (EvS.now ⟨by omega, fun j j0 j1 => h4 j j0 (by omega)⟩)
  | succ d ih =>
    intro i s h1 h2 h3 h4
    have q0 := Int.ediv_nonneg hn (show 0 ≤ p by omega)
    have q1 := Int.ediv_le_self p hn
    refine EvS.step (fun k => by rw [spec_split.l0]) ?_
    refine EvS.pos (by omega) (EvS.neg (by omega) ?_)
    rw [tdiv_pos _ _ hn, tmod_pos _ _ hn, w64 (x := n / p) (by omega) (by omega), w64 (x := i + 1) (by omega) (by omega), w64 (x := n / p + 1) (by omega) (by omega)]
    refine EvS.ite (fun c => EvS.pos (by omega) (ih _ _ (by omega) (by omega) (by simp; omega) (fun j j0 j1 => ?_))) (fun c => EvS.pos (by omega) (ih _ _ (by omega) (by omega) (by simp; omega) (fun j j0 j1 => ?_)))
    · rw [rd_snoc _ _ _ j0]
      by_cases e : i = j
      · subst e; rw [if_neg (by omega), if_pos h3.symm, sp, if_pos c]
      · rw [if_pos (by omega)]; exact h4 j j0 (by omega)
    · rw [rd_snoc _ _ _ j0]
      by_cases e : i = j
      · subst e; rw [if_neg (by omega), if_pos h3.symm, sp, if_neg c]; omega
      · rw [if_pos (by omega)]; exact h4 j j0 (by omega)
theorem split_ok (n p : Int) (hn : 0 ≤ n) (hn2 : n ≤ 1000000) (hp : 1 ≤ p) (hp2 : p ≤ 12) : EvS (fun k => spec_split.f k n p) (IsSplit n p) := by
  simp only [spec_split.f]
  exact split_l0 n p hn hn2 hp hp2 p.toNat 0 [] (by omega) (by omega) (by simp) (fun j j0 j1 => by omega)
/-- The first parts together. -/
def spSum (n p i : Int) : Int := i * (n / p) + if i < n % p then i else n % p
theorem spSum_zero (n p : Int) (hn : 0 ≤ n) (hp : 1 ≤ p) : spSum n p 0 = 0 := by
  have := Int.emod_nonneg n (show p ≠ 0 by omega)
  unfold spSum; split <;> omega
theorem spSum_succ (n p i : Int) : spSum n p (i + 1) = spSum n p i + sp n p i := by
  unfold spSum sp
  rw [Int.add_mul]
  split <;> split <;> omega
theorem spSum_all (n p : Int) (hp : 1 ≤ p) : spSum n p p = n := by
  have := Int.emod_lt_of_pos n (show 0 < p by omega)
  have := Int.mul_ediv_add_emod n p
  unfold spSum
  rw [if_neg (by omega)]; omega
theorem spSum_le (n p : Int) (hn : 0 ≤ n) (hp : 1 ≤ p) (d : Nat) : ∀ i : Int, 0 ≤ i → i + d = p → 0 ≤ spSum n p i ∧ spSum n p i ≤ n := by
  induction d with
  | zero =>
    intro i h0 h1
    have : i = p := by omega
    rw [this, spSum_all n p hp]; omega
  | succ d ih =>
    intro i h0 h1
    have h := ih (i + 1) (by omega) (by omega)
    have s := spSum_succ n p i
    have r := sp_range (i := i) hn hp
    have lo : 0 ≤ spSum n p i := by
      unfold spSum
      have a := Int.mul_nonneg h0 (Int.ediv_nonneg hn (show 0 ≤ p by omega))
      have b := Int.emod_nonneg n (show p ≠ 0 by omega)
      split <;> omega
    omega
/-! ## What members get in a round. -/
/-- What member m gets, where w wins. -/
def payVal (bids : List Int) (pay w m : Int) : Int :=
  if m = w then (if (bids.length : Int) = 1 then bids.length * pay else bids.length * pay - mx (rd bids w) 0)
  else if m < w then sp (mx (rd bids w) 0) (bids.length - 1) m else sp (mx (rd bids w) 0) (bids.length - 1) (m - 1)
structure IsPay (bids : List Int) (pay w : Int) (r : List Int) : Prop where
  len : r.length = bids.length
  val : ∀ m : Int, 0 ≤ m → m < bids.length → rd r m = payVal bids pay w m
theorem mx_range {x y : Int} : mx x y = if x < y then y else x := rfl
theorem gift_range {bids : List Int} {pay w : Int} (h : VBids bids pay) (h0 : 0 ≤ w) (h1 : w < bids.length) : 0 ≤ mx (rd bids w) 0 ∧ mx (rd bids w) 0 ≤ bids.length * pay ∧ bids.length * pay ≤ 120000 := by
  have := pot_bound (n := bids.length) (by have := h.1; omega) h.2.1
  have := h.2.2 _ (rd_mem w h0 h1)
  rw [mx_range]; split <;> omega
theorem impl_payouts_l0 (bids : List Int) (pay w : Int) (hv : VBids bids pay) (h0 : 0 ≤ w) (h1 : w < bids.length) (parts : List Int) (hp : IsSplit (mx (rd bids w) 0) (bids.length - 1) parts) (d : Nat) : ∀ (i : Int) (out : List Int), i + d = bids.length - 1 → 0 ≤ i → out.length = bids.length →
    (∀ m : Int, 0 ≤ m → m < bids.length → m ≠ w → (if m < w then m else m - 1) < i → rd out m = payVal bids pay w m) → rd out w = bids.length * pay - spSum (mx (rd bids w) 0) (bids.length - 1) i → 2 ≤ bids.length →
    EvS (fun k => impl_PayoutsOf.l0 k w out parts parts.length i) (IsPay bids pay w) := by
  have hg := gift_range hv h0 h1
  have hn := hv.1
  have hpl := hp.len
  generalize hgi : mx (rd bids w) 0 = g at *
  induction d with
  | zero =>
    intro i out e1 e2 e3 e4 e5 e6
    refine EvS.step (fun k => by rw [impl_PayoutsOf.l0]) ?_
    refine EvS.neg (by omega) (EvS.now ⟨e3, fun m m0 m1 => ?_⟩)
    by_cases c : m = w
    · subst c
      rw [e5, payVal, if_pos rfl, if_neg (by omega), hgi, show i = bids.length - 1 by omega, spSum_all _ _ (by omega)]
    · exact e4 m m0 m1 c (by split <;> omega)
  | succ d ih =>
    intro i out e1 e2 e3 e4 e5 e6
    have hs := hp.val i e2 (by omega)
    have hr := sp_range (n := g) (p := bids.length - 1) (i := i) hg.1 (by omega)
    have hle := spSum_le g (bids.length - 1) hg.1 (by omega) (d + 1) i e2 (by omega)
    have hsu := spSum_succ g (bids.length - 1) i
    refine EvS.step (fun k => by rw [impl_PayoutsOf.l0]) ?_
    refine EvS.pos (by omega) (EvS.pos e2 (EvS.pos (by omega) ?_))
    rw [hs, w64 (x := i + 1) (by omega) (by omega)]
    refine EvS.ite (fun c => ?_) (fun c => ?_)
    · refine EvS.pos (by omega) (EvS.pos (by omega) (EvS.onsome ?_))
      refine EvS.pos h0 (EvS.pos (by first | omega | (simp; omega)) ?_)
      rw [rd_set _ _ _ _ (by omega) (by omega) h0, if_neg (by omega), e5, w64 (x := bids.length * pay - spSum g (bids.length - 1) i - sp g (bids.length - 1) i) (by omega) (by omega)]
      refine ih _ _ (by omega) (by omega) (by simpa using e3) (fun m m0 m1 m2 m3 => ?_) ?_ e6
      · rw [rd_set _ _ _ _ h0 (by simp; omega) m0, if_neg (by omega), rd_set _ _ _ _ (by omega) (by omega) m0]
        by_cases e : i + 1 = m
        · rw [if_pos e, payVal, if_neg m2, if_neg (by omega), hgi, show m - 1 = i by omega]
        · rw [if_neg e]; exact e4 m m0 m1 m2 (by split at m3 <;> split <;> omega)
      · rw [rd_set _ _ _ _ h0 (by simp; omega) h0, if_pos rfl]; omega
    · refine EvS.pos (by omega) (EvS.onsome ?_)
      refine EvS.pos h0 (EvS.pos (by first | omega | (simp; omega)) ?_)
      rw [rd_set _ _ _ _ e2 (by omega) h0, if_neg (by omega), e5, w64 (x := bids.length * pay - spSum g (bids.length - 1) i - sp g (bids.length - 1) i) (by omega) (by omega)]
      refine ih _ _ (by omega) (by omega) (by simpa using e3) (fun m m0 m1 m2 m3 => ?_) ?_ e6
      · rw [rd_set _ _ _ _ h0 (by simp; omega) m0, if_neg (by omega), rd_set _ _ _ _ e2 (by omega) m0]
        by_cases e : i = m
        · rw [if_pos e, payVal, if_neg m2, if_pos (by omega), hgi, e]
        · rw [if_neg e]; exact e4 m m0 m1 m2 (by split at m3 <;> split <;> omega)
      · rw [rd_set _ _ _ _ h0 (by simp; omega) h0, if_pos rfl]; omega
theorem impl_PayoutsOf_ok (bids done : List Int) (hl : bids.length ≤ 4000000) (hd : done.length ≤ 4000000) (pay : Int) :
    EvS (fun k => impl_PayoutsOf.f k bids pay done) (fun r => if winner bids pay done < 0 then r = [] else VBids bids pay ∧ Diff done bids.length ∧ IsPay bids pay (winner bids pay done) r) := by
  simp only [impl_PayoutsOf.f]
  refine EvS.bindv (impl_WinnerOf_ok bids done hl hd pay) ?_
  by_cases hw : winner bids pay done < 0
  · simp only [if_pos hw]
    exact EvS.now rfl
  · simp only [if_neg hw]
    have hv : VBids bids pay ∧ Diff done bids.length := by
      unfold winner at hw
      by_cases c : VBids bids pay ∧ Diff done bids.length
      · exact c
      · rw [if_neg c] at hw; omega
    have hb : winner bids pay done < bids.length := by
      rw [winner, if_pos hv]; exact (win_best bids done).hi
    generalize winner bids pay done = w at *
    have hg := gift_range hv.1 (by omega) hb
    have hn := hv.1.1
    refine EvS.pos (by omega) (EvS.pos (by omega) (EvS.onsome ?_))
    rw [Int.toNat_natCast]
    refine EvS.call (potOf_eq _ _) ?_
    rw [if_pos ⟨by omega, hv.1.2.1⟩]
    refine EvS.pos (by omega) (EvS.pos (by rw [List.length_replicate]; exact hb) (EvS.pos hb ?_))
    rw [w64 (x := (bids.length : Int) - 1) (by omega) (by omega)]
    by_cases h1 : bids.length = 1
    · refine EvS.bindv (splitEven_none _ _ (by omega)) ?_
      refine EvS.step (fun k => by rw [impl_PayoutsOf.l0]) ?_
      refine EvS.neg (by simp) (EvS.now ⟨hv.1, hv.2, by simp, fun m m0 m1 => ?_⟩)
      rw [rd_set _ _ _ _ (by omega) (by rw [List.length_replicate]; omega) m0, if_pos (by omega), payVal, if_pos (by omega), if_pos (by omega)]
    · refine EvS.bind (splitEven_ok _ _ hg.1 (by omega) (by omega) (by omega)) (fun parts hp => ?_)
      refine EvS.mono (impl_payouts_l0 bids pay w hv.1 (by omega) hb parts hp (bids.length - 1) 0 _ (by omega) (by omega) (by simp) (fun m m0 m1 m2 m3 => ?_) ?_ (by omega)) (fun r hr => ⟨hv.1, hv.2, hr⟩)
      · split at m3 <;> omega
      · rw [rd_set _ _ _ _ (by omega) (by rw [List.length_replicate]; omega) (by omega), if_pos rfl, spSum_zero _ _ hg.1 (by omega)]; omega
/-! ## What an exact law asks of lists of numbers. -/
theorem toIntS_l0 (xs : List Int) (hl : xs.length ≤ 4000000) (ys : List Int) : ∀ (i : Int) (s : List Int), At xs i ys → s.length = xs.length → (∀ j : Int, 0 ≤ j → j < i → rd s j = rd xs j) → EvS (fun k => laws_toIntS.l0 k xs s i) (· = xs) := by
  induction ys with
  | nil =>
    intro i s h h1 h2
    have := h.ge
    refine EvS.step (fun k => by rw [laws_toIntS.l0]) ?_
    exact EvS.neg (by omega) (EvS.now (list_ext h1 (fun j j0 j1 => h2 j j0 (by omega))))
  | cons y ys ih =>
    intro i s h h1 h2
    have g1 := h.lt
    have g2 := h.nonneg
    refine EvS.step (fun k => by rw [laws_toIntS.l0]) ?_
    refine EvS.pos h.lt (EvS.pos h.nonneg (EvS.pos (by omega) ?_))
    refine ih _ _ (h.wnext (by omega)) (by simpa using h1) (fun j j0 j1 => ?_)
    rw [w64 (by omega) (by omega)] at j1
    rw [rd_set _ _ _ _ g2 (by omega) j0]
    by_cases e : i = j
    · rw [if_pos e, e]
    · rw [if_neg e]; exact h2 j j0 (by omega)
theorem toIntS_ok (xs : List Int) (hl : xs.length ≤ 4000000) : EvS (fun k => laws_toIntS.f k xs) (· = xs) := by
  simp only [laws_toIntS.f]
  exact EvS.pos (by omega) (EvS.pos (by omega) (toIntS_l0 xs hl xs 0 _ (At.zero _) (by simp) (fun j j0 j1 => by omega)))
theorem eqIntS_l0 (xs : List Int) (hl : xs.length ≤ 4000000) (ys : List Int) : ∀ i : Int, At xs i ys → EvS (fun k => laws_eqIntS.l0 k xs xs i) (· = true) := by
  induction ys with
  | nil =>
    intro i h
    refine EvS.step (fun k => by rw [laws_eqIntS.l0]) ?_
    exact EvS.neg (by have := h.ge; omega) (EvS.now rfl)
  | cons y ys ih =>
    intro i h
    refine EvS.step (fun k => by rw [laws_eqIntS.l0]) ?_
    exact EvS.pos h.lt (EvS.pos h.nonneg (EvS.pos h.lt (EvS.pos (by simp) (ih _ (h.wnext (by omega))))))
theorem eqIntS_ok (xs : List Int) (hl : xs.length ≤ 4000000) : EvS (fun k => laws_eqIntS.f k xs xs) (· = true) := by
  simp only [laws_eqIntS.f]
  exact EvS.pos (by trivial) (eqIntS_l0 xs hl xs 0 (At.zero xs))
structure Marked (k : Int) (n : Nat) (m : List Int) : Prop where
  len : m.length = n
  val : ∀ j : Int, 0 ≤ j → j < n → rd m j = k + j
theorem markIntS_l0 (n : Nat) (hn : n ≤ 4000000) (k0 : Int) (h0 : 0 ≤ k0) (h1 : k0 ≤ 1099511627776) (d : Nat) : ∀ (i : Int) (m : List Int), i + d = n → 0 ≤ i → m.length = n → (∀ j : Int, 0 ≤ j → j < i → rd m j = k0 + j) →
    EvS (fun k => laws_markIntS.l0 k m (k0 + i) i) (fun r => r.1 = k0 + n ∧ Marked k0 n r.2) := by
  induction d with
  | zero =>
    intro i m e1 e2 e3 e4
    refine EvS.step (fun k => by rw [laws_markIntS.l0]) ?_
    exact EvS.neg (by omega) (EvS.now ⟨by dsimp only; omega, e3, fun j j0 j1 => e4 j j0 (by omega)⟩)
  | succ d ih =>
    intro i m e1 e2 e3 e4
    refine EvS.step (fun k => by rw [laws_markIntS.l0]) ?_
    refine EvS.pos (by omega) (EvS.pos e2 ?_)
    rw [w64 (x := k0 + i + 1) (by omega) (by omega), w64 (x := i + 1) (by omega) (by omega), show k0 + i + 1 = k0 + (i + 1) by omega]
    refine ih _ _ (by omega) (by omega) (by simpa using e3) (fun j j0 j1 => ?_)
    rw [rd_set _ _ _ _ e2 (by omega) j0]
    by_cases e : i = j
    · rw [if_pos e, e]
    · rw [if_neg e]; exact e4 j j0 (by omega)
theorem markIntS_ok (xs : List Int) (hl : xs.length ≤ 4000000) (k0 : Int) (h0 : 0 ≤ k0) (h1 : k0 ≤ 1099511627776) : EvS (fun k => laws_markIntS.f k xs k0) (fun r => r.1 = k0 + xs.length ∧ Marked k0 xs.length r.2) := by
  simp only [laws_markIntS.f]
  have := markIntS_l0 xs.length hl k0 h0 h1 xs.length 0 xs (by omega) (by omega) rfl (fun j j0 j1 => by omega)
  rw [show k0 + 0 = k0 by omega] at this
  exact this
theorem heldIntS_l0 (n : Nat) (hn : n ≤ 4000000) (k0 : Int) (h0 : 0 ≤ k0) (h1 : k0 ≤ 1099511627776) (m : List Int) (hm : Marked k0 n m) (d : Nat) : ∀ i : Int, i + d = n → 0 ≤ i → EvS (fun k => laws_heldIntS.l0 k m (k0 + i) i) (· = k0 + n) := by
  have e3 := hm.len
  induction d with
  | zero =>
    intro i e1 e2
    refine EvS.step (fun k => by rw [laws_heldIntS.l0]) ?_
    exact EvS.neg (by omega) (EvS.now (by omega))
  | succ d ih =>
    intro i e1 e2
    refine EvS.step (fun k => by rw [laws_heldIntS.l0]) ?_
    refine EvS.pos (by omega) (EvS.pos e2 (EvS.pos (hm.val i e2 (by omega)) ?_))
    rw [w64 (x := k0 + i + 1) (by omega) (by omega), w64 (x := i + 1) (by omega) (by omega), show k0 + i + 1 = k0 + (i + 1) by omega]
    exact ih _ (by omega) (by omega)
theorem heldIntS_ok (n : Nat) (hn : n ≤ 4000000) (k0 : Int) (h0 : 0 ≤ k0) (h1 : k0 ≤ 1099511627776) (m : List Int) (hm : Marked k0 n m) : EvS (fun k => laws_heldIntS.f k m k0) (· = k0 + n) := by
  simp only [laws_heldIntS.f]
  have := heldIntS_l0 n hn k0 h0 h1 m hm n 0 (by omega) (by omega)
  rw [show k0 + 0 = k0 by omega] at this
  exact this
theorem mx_comm0 (x : Int) : mx 0 x = mx x 0 := by simp only [mx_range]; split <;> split <;> omega
theorem spec_payouts_l0 (bids : List Int) (pay w : Int) (hv : VBids bids pay) (h0 : 0 ≤ w) (h1 : w < bids.length) (h2 : 2 ≤ bids.length) (parts : List Int) (hp : IsSplit (mx (rd bids w) 0) (bids.length - 1) parts) (d : Nat) : ∀ (i : Int) (out : List Int), i + d = bids.length → 0 ≤ i → out.length = bids.length →
    (∀ m : Int, 0 ≤ m → m < bids.length → (m = w ∨ m < i) → rd out m = payVal bids pay w m) →
    EvS (fun k => spec_payouts.l0 k bids.length out w parts (if i ≤ w then i else i - 1) i) (IsPay bids pay w) := by
  have hn := hv.1
  have hpl := hp.len
  induction d with
  | zero =>
    intro i out e1 e2 e3 e4
    refine EvS.step (fun k => by rw [spec_payouts.l0]) ?_
    exact EvS.neg (by omega) (EvS.now ⟨e3, fun m m0 m1 => e4 m m0 m1 (by omega)⟩)
  | succ d ih =>
    intro i out e1 e2 e3 e4
    refine EvS.step (fun k => by rw [spec_payouts.l0]) ?_
    rw [w64 (x := i + 1) (by omega) (by omega)]
    refine EvS.pos (by omega) ?_
    by_cases c : i = w
    · refine EvS.pos c ?_
      have := ih (i + 1) out (by omega) (by omega) e3 (fun m m0 m1 m2 => e4 m m0 m1 (by omega))
      rw [if_neg (by omega), show i + 1 - 1 = i by omega] at this
      rw [if_pos (by omega)]
      exact this
    · refine EvS.neg c ?_
      have hk : 0 ≤ (if i ≤ w then i else i - 1) ∧ (if i ≤ w then i else i - 1) < bids.length - 1 := by split <;> omega
      have hpv := hp.val _ hk.1 hk.2
      refine EvS.pos hk.1 (EvS.pos (by omega) (EvS.pos e2 (EvS.pos (by omega) ?_)))
      rw [hpv, w64 (x := (if i ≤ w then i else i - 1) + 1) (by omega) (by omega)]
      have := ih (i + 1) (out.set i.toNat (sp (mx (rd bids w) 0) (bids.length - 1) (if i ≤ w then i else i - 1))) (by omega) (by omega) (by simpa using e3) (fun m m0 m1 m2 => by
        rw [rd_set _ _ _ _ e2 (by omega) m0]
        by_cases e : i = m
        · subst e
          rw [if_pos rfl, payVal, if_neg c]
          by_cases c3 : i < w
          · rw [if_pos c3, if_pos (by omega)]
          · rw [if_neg c3, if_neg (by omega)]
        · rw [if_neg e]; exact e4 m m0 m1 (by omega))
      rw [show (if i + 1 ≤ w then i + 1 else i + 1 - 1) = (if i ≤ w then i else i - 1) + 1 by split <;> split <;> omega] at this
      exact this
/-- What PayoutsOf tells: one list. -/
def IsPayouts (bids : List Int) (pay : Int) (done r : List Int) : Prop := if winner bids pay done < 0 then r = [] else VBids bids pay ∧ Diff done bids.length ∧ IsPay bids pay (winner bids pay done) r
theorem IsPayouts.eq {bids : List Int} {pay : Int} {done r s : List Int} (h : IsPayouts bids pay done r) (g : IsPayouts bids pay done s) : r = s := by
  unfold IsPayouts at h g
  by_cases c : winner bids pay done < 0
  · rw [if_pos c] at h g; rw [h, g]
  · rw [if_neg c] at h g
    exact list_ext (by rw [h.2.2.len, g.2.2.len]) (fun i h0 h1 => by have := h.2.2.len; rw [h.2.2.val i h0 (by omega), g.2.2.val i h0 (by omega)])
theorem IsPayouts.len {bids : List Int} {pay : Int} {done r : List Int} (h : IsPayouts bids pay done r) : r.length ≤ bids.length := by
  unfold IsPayouts at h
  split at h
  · subst h; simp
  · have := h.2.2.len; omega
theorem win_free {bids done : List Int} (h : done.length < bids.length) : 0 ≤ win bids done := by
  have hb := win_best bids done
  by_cases c : win bids done < 0
  · exfalso
    have hsub : (List.range bids.length).map (fun m : Nat => (m : Int)) ⊆ done := by
      intro x hx
      obtain ⟨m, hm, rfl⟩ := List.mem_map.1 hx
      exact hb.none c m (by omega) (by have := List.mem_range.1 hm; omega)
    have hnd : ((List.range bids.length).map (fun m : Nat => (m : Int))).Nodup := by
      rw [List.nodup_iff_pairwise_ne]
      refine List.Pairwise.map _ (fun a b hab => ?_) (List.nodup_range (n := bids.length))
      omega
    have := hnd.length_le_of_subset hsub
    rw [List.length_map, List.length_range] at this
    omega
  · omega
theorem win_full {bids done : List Int} (h : Diff done bids.length) (hl : done.length = bids.length) : win bids done < 0 := by
  have hb := win_best bids done
  by_cases c : win bids done < 0
  · exact c
  · exfalso
    have hf := hb.free (by omega)
    have hd : Diff (done ++ [win bids done]) bids.length := by
      refine ⟨?_, fun x hx => ?_⟩
      · rw [List.nodup_append]
        refine ⟨h.1, by simp, fun a ha b hb2 => ?_⟩
        rw [List.mem_singleton] at hb2
        intro e; rw [e, hb2] at ha; exact hf ha
      · rcases List.mem_append.1 hx with hx | hx
        · exact h.2 x hx
        · rw [List.mem_singleton] at hx
          have := hb.hi
          omega
    rcases diff_len hd with g | g
    · simp at g; omega
    · simp at g
theorem spec_PayoutsOf_ok (bids done : List Int) (hl : bids.length ≤ 4000000) (hd : done.length ≤ 4000000) (pay : Int) :
    EvS (fun k => spec_PayoutsOf.f k bids pay done) (IsPayouts bids pay done) := by
  simp only [spec_PayoutsOf.f]
  have hno : ¬ (VBids bids pay ∧ Diff done bids.length) → IsPayouts bids pay done [] := by
    intro g
    unfold IsPayouts winner
    rw [if_neg g, if_pos (by omega)]
  refine EvS.bindv (spec_validBids_ok bids (by omega) pay) (EvS.ite (fun c1 => EvS.bindv (validMembers_ok done (by omega) _ (by omega) (by omega)) (EvS.ite (fun c2 => ?_) (fun c2 => EvS.now (hno (fun g => ndec c2 g.2))))) (fun c1 => EvS.now (hno (fun g => ndec c1 g.1))))
  have c1 := of_decide_eq_true c1
  have c2 := of_decide_eq_true c2
  have hwin : winner bids pay done = win bids done := by rw [winner, if_pos ⟨c1, c2⟩]
  refine EvS.ite (fun c3 => EvS.now ?_) (fun c3 => ?_)
  · unfold IsPayouts
    rw [hwin, if_pos (win_full c2 (by omega))]
  · have hlt : done.length < bids.length := by
      have := c1.1
      rcases diff_len c2 with g | g
      · omega
      · subst g; simp; omega
    have hw0 := win_free hlt
    have hw1 := (win_best bids done).hi
    have hn := c1.1
    have hg := gift_range c1 hw0 hw1
    refine EvS.mono (P := IsPay bids pay (win bids done)) ?_ (fun r hr => by unfold IsPayouts; rw [hwin, if_neg (by omega)]; exact ⟨c1, c2, hr⟩)
    refine EvS.bind (Q := IsPay bids pay (win bids done)) ?_ (fun r hr => EvS.now hr)
    simp only [spec_payouts.f]
    refine EvS.pos (by omega) (EvS.pos (by omega) (EvS.onsome ?_))
    rw [Int.toNat_natCast]
    refine EvS.bindv (spec_winner_ok bids done hl hd) ?_
    generalize win bids done = w at *
    rw [mx_comm0]
    refine EvS.pos hw0 (EvS.pos hw1 (EvS.pos (by rw [List.length_replicate]; exact hw1) (EvS.onsome ?_)))
    rw [w64 (x := bids.length * pay) (by omega) (by omega), w64 (x := bids.length * pay - mx (rd bids w) 0) (by omega) (by omega), w64 (x := (bids.length : Int) - 1) (by omega) (by omega)]
    by_cases h1 : bids.length = 1
    · refine EvS.pos (by omega) (EvS.now ⟨by simp, fun m m0 m1 => ?_⟩)
      rw [rd_set _ _ _ _ (by omega) (by simp; omega) m0, if_pos (by omega), payVal, if_pos (by omega), if_pos (by omega)]
    · refine EvS.neg (by omega) (EvS.bind (split_ok _ _ hg.1 (by omega) (by omega) (by omega)) (fun parts hp => ?_))
      have := spec_payouts_l0 bids pay w c1 hw0 hw1 (by omega) parts hp bids.length 0 ((List.replicate bids.length 0).set w.toNat (bids.length * pay - mx (rd bids w) 0)) (by omega) (by omega) (by simp) (fun m m0 m1 m2 => by
        rcases m2 with rfl | m2
        · rw [rd_set _ _ _ _ (by omega) (by rw [List.length_replicate]; omega) m0, if_pos rfl, payVal, if_pos rfl, if_neg (by omega)]
        · omega)
      rw [if_pos hw0] at this
      exact this

theorem FnExactPayoutsOf : laws_FnExactPayoutsOf.Pure := by
  intro l0 a1 l2 _ _ _ _ _ _ _
  refine EvS.holds ?_
  simp only [laws_FnExactPayoutsOf.f]
  refine EvS.ite (fun _ => EvS.now rfl) (fun c1 => EvS.ite (fun _ => EvS.now rfl) (fun c2 => ?_))
  have t0 := toIntS_ok l0 (by omega)
  have t2 := toIntS_ok l2 (by omega)
  refine EvS.bindv t0 (EvS.bindv t2 (EvS.bind (spec_PayoutsOf_ok l0 l2 (by omega) (by omega) a1) (fun r hr => EvS.bindv t0 (EvS.bindv t2 (EvS.bind (impl_PayoutsOf_ok l0 l2 (by omega) (by omega) a1) (fun s hs => ?_))))))
  obtain rfl : s = r := IsPayouts.eq hs hr
  have hlen := hr.len
  have e := eqIntS_ok s (by omega)
  refine EvS.bindv e (EvS.pos rfl (EvS.bindv t0 (EvS.bindv (eqIntS_ok l0 (by omega)) (EvS.pos rfl (EvS.bindv t2 (EvS.bindv (eqIntS_ok l2 (by omega)) (EvS.pos rfl ?_)))))))
  refine EvS.bind (markIntS_ok l0 (by omega) 1 (by omega) (by omega)) ?_
  rintro ⟨k1, m1⟩ ⟨hk1, _⟩
  dsimp only at hk1 ⊢
  refine EvS.bind (markIntS_ok l2 (by omega) k1 (by omega) (by omega)) ?_
  rintro ⟨k2, m2⟩ ⟨hk2, _⟩
  dsimp only at hk2 ⊢
  refine EvS.neg (by omega) (EvS.bindv e ?_)
  refine EvS.step (fun k => by rw [laws_FnExactPayoutsOf.j0]) ?_
  refine EvS.neg (by simp) (EvS.bind (markIntS_ok s (by omega) 1 (by omega) (by omega)) ?_)
  rintro ⟨k3, m3⟩ ⟨hk3, hm3⟩
  dsimp only at hk3 hm3 ⊢
  have hh := heldIntS_ok s.length (by omega) 1 (by omega) (by omega) m3 hm3
  refine EvS.bindv hh (EvS.neg (by omega) (EvS.pos (by omega) ?_))
  refine EvS.bindv t0 (EvS.bindv t2 (EvS.bind (impl_PayoutsOf_ok l0 l2 (by omega) (by omega) a1) (fun u hu => ?_)))
  obtain rfl : u = s := IsPayouts.eq hu hr
  exact EvS.bindv e (EvS.pos rfl (EvS.bindv hh (EvS.neg (by omega) (EvS.pos (by omega) (EvS.now rfl)))))
end Go.Proofs.Ytcnhjpnidfalpaa.Pure
