/- MergeMembers is what the reference tells, for all bodies and members; and what it gives lies apart from what it was given. Conditions: none. -/
import Derived.Test.YtkbgcnpjamadeaaMFnExactMergeMembersx0
import Derived.Test.YtkbgcnpjamadeaaMFnExactMergeMembersx1
import Derived.Test.YtkbgcnpjamadeaaMFnExactMergeMembersx2
import Derived.Test.YtkbgcnpjamadeaaMFnExactMergeMembersx3
import Derived.Test.YtkbgcnpjamadeaaMFnExactMergeMembersx4
import Derived.Test.YtkbgcnpjamadeaaMFnExactMergeMembersx5
import Derived.Test.YtkbgcnpjamadeaaMFnExactMergeMembersx6
import Derived.Test.YtkbgcnpjamadeaaMFnExactMergeMembersx7
import Derived.Test.YtkbgcnpjamadeaaBase
set_option linter.unusedVariables false
set_option linter.unusedSimpArgs false
namespace Go.Proofs.Ytkbgcnpjamadeaa.Pure
open Go.RowKit Go.Proofs.Ytkbgcnpjamadeaa.PFnExactMergeMembers Go.Proofs.YtkbgcnpjamadeaaW.PrintWords Go.Proofs.YtkbgcnpjamadeaaW.PrintLast Go.Proofs.YtkbgcnpjamadeaaW.PrintMore Go.Proofs.Ytkbgcnpjamadeaa.Base
theorem u8_range {x : Int} (h : (Lit.int .u8 x).wf = true) : 0 ≤ x ∧ x ≤ 255 := by
  simp [Lit.wf, IntKind.min, IntKind.max, IntKind.bits, IntKind.signed] at h
  omega
/-! ## Lists of numbers. -/
theorem inRange_eq (n lo hi : Int) : spec_inRange.f n lo hi = some (decide (lo ≤ n ∧ n ≤ hi)) := by
  unfold spec_inRange.f
  split
  · exact congrArg some (decide_eq_decide.2 (by omega))
  · exact congrArg some (decide_eq_false (by omega)).symm
def AllW (xs : List Int) (lo hi : Int) : Prop := ∀ x ∈ xs, lo ≤ x ∧ x ≤ hi
instance (xs : List Int) (lo hi : Int) : Decidable (AllW xs lo hi) := by unfold AllW; infer_instance
theorem allW_cons (y : Int) (ys : List Int) (lo hi : Int) : AllW (y :: ys) lo hi ↔ (lo ≤ y ∧ y ≤ hi) ∧ AllW ys lo hi := by
  unfold AllW; simp
theorem allWithin_l0 (xs : List Int) (hl : xs.length ≤ 1099511627776) (lo hi : Int) (ys : List Int) : ∀ i : Int, At xs i ys → EvS (fun k => impl_allWithin.l0 k lo hi xs xs.length i) (· = decide (AllW ys lo hi)) := by
  induction ys with
  | nil =>
    intro i h
    refine EvS.step (fun k => by rw [impl_allWithin.l0]) ?_
    exact EvS.neg (by have := h.ge; omega) (EvS.now (by simp [AllW]))
  | cons y ys ih =>
    intro i h
    refine EvS.step (fun k => by rw [impl_allWithin.l0]) ?_
    refine EvS.pos h.lt (EvS.pos h.nonneg (EvS.pos h.lt ?_))
    rw [At.rd h]
    refine EvS.ite (fun c => EvS.now (decide_eq_false (fun g => by have := (allW_cons _ _ _ _).1 g; omega)).symm) (fun c1 => EvS.ite (fun c => EvS.now (decide_eq_false (fun g => by have := (allW_cons _ _ _ _).1 g; omega)).symm) (fun c2 => ?_))
    refine EvS.mono (ih _ (h.wnext (by omega))) (fun r hr => ?_)
    rw [hr]
    exact decide_eq_decide.2 ⟨fun g => (allW_cons _ _ _ _).2 ⟨by omega, g⟩, fun g => ((allW_cons _ _ _ _).1 g).2⟩
theorem allWithin_ok (xs : List Int) (hl : xs.length ≤ 1099511627776) (lo hi : Int) : EvS (fun k => impl_allWithin.f k xs lo hi) (· = decide (AllW xs lo hi)) := by
  simp only [impl_allWithin.f]
  exact allWithin_l0 xs hl lo hi xs 0 (At.zero xs)
theorem allIn_l0 (xs : List Int) (hl : xs.length ≤ 1099511627776) (lo hi : Int) (ys : List Int) : ∀ i : Int, At xs i ys → EvS (fun k => spec_allIn.l0 k xs lo hi i) (· = decide (AllW ys lo hi)) := by
  induction ys with
  | nil =>
    intro i h
    refine EvS.step (fun k => by rw [spec_allIn.l0]) ?_
    exact EvS.neg (by have := h.ge; omega) (EvS.now (by simp [AllW]))
  | cons y ys ih =>
    intro i h
    refine EvS.step (fun k => by rw [spec_allIn.l0]) ?_
    refine EvS.pos h.lt (EvS.pos h.nonneg ?_)
    rw [At.rd h]
    refine EvS.call (inRange_eq _ _ _) (EvS.ite (fun c => ?_) (fun c => EvS.now ?_))
    · have c := of_decide_eq_true c
      refine EvS.mono (ih _ (h.wnext (by omega))) (fun r hr => ?_)
      rw [hr]
      exact decide_eq_decide.2 ⟨fun g => (allW_cons _ _ _ _).2 ⟨by omega, g⟩, fun g => ((allW_cons _ _ _ _).1 g).2⟩
    · have c := ndec c
      exact (decide_eq_false (fun g => c ((allW_cons _ _ _ _).1 g).1)).symm
theorem allIn_ok (xs : List Int) (hl : xs.length ≤ 1099511627776) (lo hi : Int) : EvS (fun k => spec_allIn.f k xs lo hi) (· = decide (AllW xs lo hi)) := by
  simp only [spec_allIn.f]
  exact allIn_l0 xs hl lo hi xs 0 (At.zero xs)
/-- The first place of a number, counted from i on; -1 if it is not there. -/
def posF (v : Int) : Int → List Int → Int
  | _, [] => -1
  | i, x :: xs => if x = v then i else posF v (i + 1) xs
theorem posF_range (v : Int) (xs : List Int) : ∀ i : Int, 0 ≤ i → (v ∈ xs → i ≤ posF v i xs ∧ posF v i xs < i + xs.length) ∧ (v ∉ xs → posF v i xs = -1) := by
  induction xs with
  | nil => intro i h0; exact ⟨fun h => by simp at h, fun _ => rfl⟩
  | cons x xs ih =>
    intro i h0
    have h := ih (i + 1) (by omega)
    simp only [posF, List.length_cons]
    by_cases c : x = v
    · rw [if_pos c]; exact ⟨fun _ => by omega, fun g => absurd (by simp [c]) g⟩
    · rw [if_neg c]
      refine ⟨fun g => ?_, fun g => h.2 (fun g2 => g (List.mem_cons_of_mem _ g2))⟩
      have := h.1 ((List.mem_cons.1 g).resolve_left (fun e => c e.symm))
      omega
theorem posF_nonneg (v : Int) (xs : List Int) (i : Int) (h : 0 ≤ i) : (0 ≤ posF v i xs) ↔ v ∈ xs := by
  by_cases c : v ∈ xs
  · have := (posF_range v xs i h).1 c; exact ⟨fun _ => c, fun _ => by omega⟩
  · have := (posF_range v xs i h).2 c; exact ⟨fun g => by omega, fun g => absurd g c⟩
theorem placeIn_l0 (xs : List Int) (hl : xs.length ≤ 1099511627776) (v : Int) (ys : List Int) : ∀ i : Int, At xs i ys → EvS (fun k => spec_placeIn.l0 k xs v i) (· = posF v i ys) := by
  induction ys with
  | nil =>
    intro i h
    refine EvS.step (fun k => by rw [spec_placeIn.l0]) ?_
    exact EvS.neg (by have := h.ge; omega) (EvS.now rfl)
  | cons y ys ih =>
    intro i h
    have h1 := h.lt
    have h2 := h.nonneg
    have hw : wrap64 (i + 1) = i + 1 := w64 (by omega) (by omega)
    refine EvS.step (fun k => by rw [spec_placeIn.l0]) ?_
    refine EvS.pos h.lt (EvS.pos h.nonneg ?_)
    rw [At.rd h, hw, posF]
    by_cases c : y = v
    · rw [if_pos c]; exact EvS.pos c (EvS.now rfl)
    · rw [if_neg c]; exact EvS.neg c (ih _ h.next)
theorem placeIn_ok (xs : List Int) (hl : xs.length ≤ 1099511627776) (v : Int) : EvS (fun k => spec_placeIn.f k xs v) (· = posF v 0 xs) := by
  simp only [spec_placeIn.f]
  exact placeIn_l0 xs hl v xs 0 (At.zero xs)
/-- Different numbers from 0 to n - 1. -/
def Diff (xs : List Int) (n : Int) : Prop := xs.Nodup ∧ ∀ x ∈ xs, 0 ≤ x ∧ x < n
instance (xs : List Int) (n : Int) : Decidable (Diff xs n) := by unfold Diff; infer_instance
def DiffF (pre ys : List Int) (n : Int) : Prop := ys.Nodup ∧ ∀ y ∈ ys, 0 ≤ y ∧ y < n ∧ y ∉ pre
instance (pre ys : List Int) (n : Int) : Decidable (DiffF pre ys n) := by unfold DiffF; infer_instance
theorem diffF_cons (pre : List Int) (y : Int) (ys : List Int) (n : Int) : DiffF pre (y :: ys) n ↔ (0 ≤ y ∧ y < n ∧ y ∉ pre) ∧ DiffF (y :: pre) ys n := by
  unfold DiffF
  constructor
  · rintro ⟨h1, h2⟩
    have h1 := List.nodup_cons.1 h1
    refine ⟨h2 y List.mem_cons_self, h1.2, fun z hz => ?_⟩
    have := h2 z (List.mem_cons_of_mem _ hz)
    refine ⟨this.1, this.2.1, fun hm => ?_⟩
    rcases List.mem_cons.1 hm with rfl | hm
    · exact h1.1 hz
    · exact this.2.2 hm
  · rintro ⟨h1, h2, h3⟩
    refine ⟨List.nodup_cons.2 ⟨fun hm => (h3 y hm).2.2 List.mem_cons_self, h2⟩, fun z hz => ?_⟩
    rcases List.mem_cons.1 hz with rfl | hz
    · exact h1
    · have := h3 z hz
      exact ⟨this.1, this.2.1, fun hm => this.2.2 (List.mem_cons_of_mem _ hm)⟩
theorem diffF_congr {p q ys : List Int} {n : Int} (h : ∀ x, x ∈ p ↔ x ∈ q) : DiffF p ys n ↔ DiffF q ys n := by
  unfold DiffF
  simp only [h]
theorem diffF_nil (xs : List Int) (n : Int) : DiffF [] xs n ↔ Diff xs n := by
  unfold DiffF Diff; simp
theorem diff_len {xs : List Int} {n : Int} (h : Diff xs n) : (xs.length : Int) ≤ n ∨ xs = [] := by
  rcases xs with _ | ⟨x, xs⟩
  · exact .inr rfl
  · left
    have h1 : 0 ≤ n := by have := h.2 x List.mem_cons_self; omega
    have h2 : (x :: xs) ⊆ (List.range n.toNat).map (fun m : Nat => (m : Int)) := by
      intro y hy
      have := h.2 y hy
      exact List.mem_map.2 ⟨y.toNat, List.mem_range.2 (by omega), by omega⟩
    have h3 := h.1.length_le_of_subset h2
    rw [List.length_map, List.length_range] at h3
    omega
theorem differentBelow_l0 (xs : List Int) (hl : xs.length ≤ 1099511627776) (n : Int) (ys : List Int) : ∀ (i : Int) (seen : List Bool) (pre : List Int), At xs i ys → (seen.length : Int) = n → (∀ v : Int, 0 ≤ v → v < n → (rdOf false seen v = true ↔ v ∈ pre)) →
    EvS (fun k => impl_differentBelow.l0 k n seen xs xs.length i) (· = decide (DiffF pre ys n)) := by
  induction ys with
  | nil =>
    intro i seen pre h hs hv
    refine EvS.step (fun k => by rw [impl_differentBelow.l0]) ?_
    exact EvS.neg (by have := h.ge; omega) (EvS.now (by simp [DiffF]))
  | cons y ys ih =>
    intro i seen pre h hs hv
    refine EvS.step (fun k => by rw [impl_differentBelow.l0]) ?_
    refine EvS.pos h.lt (EvS.pos h.nonneg (EvS.pos h.lt ?_))
    rw [At.rd h]
    refine EvS.ite (fun c => EvS.now (decide_eq_false (fun g => by have := ((diffF_cons _ _ _ _).1 g).1; omega)).symm) (fun c1 => EvS.ite (fun c => EvS.now (decide_eq_false (fun g => by have := ((diffF_cons _ _ _ _).1 g).1; omega)).symm) (fun c2 => EvS.pos (by omega) (EvS.pos (by omega) ?_)))
    have hy := hv y (by omega) (by omega)
    refine EvS.ite (fun c => EvS.now (decide_eq_false (fun g => ((diffF_cons _ _ _ _).1 g).1.2.2 (hy.1 c))).symm) (fun c3 => ?_)
    refine EvS.mono (ih _ (seen.set y.toNat true) (y :: pre) (h.wnext (by omega)) (by simpa using hs) (fun v h0 h1 => ?_)) (fun r hr => ?_)
    · unfold rdOf
      rw [List.getD_eq_getElem?_getD, List.getElem?_set]
      by_cases e : y = v
      · subst e
        rw [if_pos rfl, if_pos (by omega)]
        exact ⟨fun _ => List.mem_cons_self, fun _ => rfl⟩
      · rw [if_neg (by omega)]
        have := hv v h0 h1
        unfold rdOf at this
        rw [List.getD_eq_getElem?_getD] at this
        rw [this, List.mem_cons]
        exact ⟨fun g => .inr g, fun g => g.resolve_left (fun e2 => e e2.symm)⟩
    · rw [hr]
      exact decide_eq_decide.2 ⟨fun g => (diffF_cons _ _ _ _).2 ⟨⟨by omega, by omega, fun hm => c3 (hy.2 hm)⟩, g⟩, fun g => ((diffF_cons _ _ _ _).1 g).2⟩
theorem differentBelow_ok (xs : List Int) (hl : xs.length ≤ 1099511627776) (n : Int) (hn : n ≤ 1099511627776) (h0 : 0 ≤ n) : EvS (fun k => impl_differentBelow.f k xs n) (· = decide (Diff xs n)) := by
  simp only [impl_differentBelow.f]
  refine EvS.ite (fun c => EvS.now (decide_eq_false (fun g => ?_)).symm) (fun c => EvS.pos h0 (EvS.pos (by omega) ?_))
  · rcases diff_len g with h | h
    · omega
    · subst h; simp at c; omega
  · refine EvS.mono (differentBelow_l0 xs hl n xs 0 _ [] (At.zero xs) (by simp; omega) (fun v _ _ => ?_)) (fun r hr => ?_)
    · unfold rdOf
      rw [List.getD_eq_getElem?_getD, List.getElem?_replicate]
      split <;> simp
    · rw [hr]
      exact decide_eq_decide.2 (diffF_nil xs n)
theorem validMembers_l0 (xs : List Int) (hl : xs.length ≤ 1099511627776) (n : Int) (hn : n ≤ 1099511627776) (h0 : 0 ≤ n) (ys : List Int) : ∀ i : Int, At xs i ys → EvS (fun k => spec_validMembers.l0 k xs n i) (· = decide (DiffF (xs.take i.toNat) ys n)) := by
  induction ys with
  | nil =>
    intro i h
    refine EvS.step (fun k => by rw [spec_validMembers.l0]) ?_
    exact EvS.neg (by have := h.ge; omega) (EvS.now (by simp [DiffF]))
  | cons y ys ih =>
    intro i h
    have h1 := h.lt
    have h2 := h.nonneg
    have hw : wrap64 (i + 1) = i + 1 := w64 (by omega) (by omega)
    refine EvS.step (fun k => by rw [spec_validMembers.l0]) ?_
    refine EvS.pos h.lt (EvS.pos h.nonneg ?_)
    rw [At.rd h, hw, w64 (x := n - 1) (by omega) (by omega)]
    refine EvS.call (inRange_eq _ _ _) (EvS.ite (fun c => EvS.pos (by omega) ?_) (fun c => EvS.now ?_))
    · have c := of_decide_eq_true c
      refine EvS.bindv (placeIn_ok _ (by rw [List.length_take]; omega) y) ?_
      have hp := posF_nonneg y (xs.take i.toNat) 0 (by omega)
      refine EvS.ite (fun g => EvS.now (decide_eq_false (fun g2 => ((diffF_cons _ _ _ _).1 g2).1.2.2 (hp.1 g))).symm) (fun g => ?_)
      refine EvS.mono (ih _ h.next) (fun r hr => ?_)
      rw [hr]
      refine decide_eq_decide.2 (Iff.trans (diffF_congr (q := y :: xs.take i.toNat) (fun x => ?_)) ⟨fun g2 => (diffF_cons _ _ _ _).2 ⟨⟨c.1, by omega, fun hm => g (hp.2 hm)⟩, g2⟩, fun g2 => ((diffF_cons _ _ _ _).1 g2).2⟩)
      simp only [h.take, List.mem_append, List.mem_cons, List.not_mem_nil, or_false]
      exact or_comm
    · have c := ndec c
      exact (decide_eq_false (fun g => c (by have := ((diffF_cons _ _ _ _).1 g).1; omega))).symm
theorem validMembers_ok (xs : List Int) (hl : xs.length ≤ 1099511627776) (n : Int) (hn : n ≤ 1099511627776) (h0 : 0 ≤ n) : EvS (fun k => spec_validMembers.f k xs n) (· = decide (Diff xs n)) := by
  simp only [spec_validMembers.f]
  refine EvS.mono (validMembers_l0 xs hl n hn h0 xs 0 (At.zero xs)) (fun r hr => ?_)
  rw [hr]
  exact decide_eq_decide.2 (diffF_nil xs n)
/-! ## Bodies that vote. -/
def tot : List Int → Int
  | [] => 0
  | x :: xs => x + tot xs
theorem tot_range {xs : List Int} {hi : Int} (h0 : 0 ≤ hi) (h : AllW xs 0 hi) : 0 ≤ tot xs ∧ tot xs ≤ xs.length * hi := by
  induction xs with
  | nil => simp [tot]
  | cons x xs ih =>
    have h1 := (allW_cons _ _ _ _).1 h
    have h2 := ih h1.2
    simp only [tot, List.length_cons, Int.natCast_add, Int.add_mul]
    omega
theorem tot_bound {xs : List Int} (h : ∀ x ∈ xs, -1000000000000 ≤ x ∧ x ≤ 1000000000000) : -(1000000000000 * (xs.length : Int)) ≤ tot xs ∧ tot xs ≤ 1000000000000 * xs.length := by
  induction xs with
  | nil => simp [tot]
  | cons x xs ih =>
    have h1 := h x List.mem_cons_self
    have h2 := ih (fun y hy => h y (List.mem_cons_of_mem _ hy))
    simp only [tot, List.length_cons]
    omega
theorem spec_total_l0 (xs : List Int) (hl : xs.length ≤ 1000) (hx : ∀ x ∈ xs, -1000000000000 ≤ x ∧ x ≤ 1000000000000) (ys : List Int) : ∀ (i acc : Int), At xs i ys → acc + tot ys = tot xs → EvS (fun k => spec_total.l0 k xs acc i) (· = tot xs) := by
  induction ys with
  | nil =>
    intro i acc h e
    refine EvS.step (fun k => by rw [spec_total.l0]) ?_
    exact EvS.neg (by have := h.ge; omega) (EvS.now (by simp [tot] at e; exact e))
  | cons y ys ih =>
    intro i acc h e
    have h1 := h.len
    have h2 := h.nonneg
    have b1 := tot_bound hx
    have b2 := tot_bound (xs := ys) (fun z hz => hx z (h.sub z (List.mem_cons_of_mem _ hz)))
    have b3 := hx y h.mem
    simp only [tot, List.length_cons] at e h1
    refine EvS.step (fun k => by rw [spec_total.l0]) ?_
    refine EvS.pos h.lt (EvS.pos h.nonneg ?_)
    rw [At.rd h, w64 (x := acc + y) (by omega) (by omega)]
    exact ih _ _ (h.wnext (by omega)) (by omega)
theorem spec_total_ok (xs : List Int) (hl : xs.length ≤ 1000) (hx : ∀ x ∈ xs, -1000000000000 ≤ x ∧ x ≤ 1000000000000) : EvS (fun k => spec_total.f k xs) (· = tot xs) := by
  simp only [spec_total.f]
  exact spec_total_l0 xs hl hx xs 0 0 (At.zero _) (by omega)
theorem sumOf_l0 (xs : List Int) (hl : xs.length ≤ 1000) (hx : ∀ x ∈ xs, -1000000000000 ≤ x ∧ x ≤ 1000000000000) (ys : List Int) : ∀ (i acc : Int), At xs i ys → acc + tot ys = tot xs → EvS (fun k => impl_sumOf.l0 k acc xs xs.length i) (· = tot xs) := by
  induction ys with
  | nil =>
    intro i acc h e
    refine EvS.step (fun k => by rw [impl_sumOf.l0]) ?_
    exact EvS.neg (by have := h.ge; omega) (EvS.now (by simp [tot] at e; exact e))
  | cons y ys ih =>
    intro i acc h e
    have h1 := h.len
    have h2 := h.nonneg
    have b1 := tot_bound hx
    have b2 := tot_bound (xs := ys) (fun z hz => hx z (h.sub z (List.mem_cons_of_mem _ hz)))
    have b3 := hx y h.mem
    simp only [tot, List.length_cons] at e h1
    refine EvS.step (fun k => by rw [impl_sumOf.l0]) ?_
    refine EvS.pos h.lt (EvS.pos h.nonneg (EvS.pos h.lt ?_))
    rw [At.rd h, w64 (x := acc + y) (by omega) (by omega)]
    exact ih _ _ (h.wnext (by omega)) (by omega)
theorem sumOf_ok (xs : List Int) (hl : xs.length ≤ 1000) (hx : ∀ x ∈ xs, -1000000000000 ≤ x ∧ x ≤ 1000000000000) : EvS (fun k => impl_sumOf.f k xs) (· = tot xs) := by
  simp only [impl_sumOf.f]
  exact sumOf_l0 xs hl hx xs 0 0 (At.zero _) (by omega)
def VBody (ws : List Int) (need : Int) : Prop := (1 ≤ ws.length ∧ ws.length ≤ 12) ∧ AllW ws 0 100 ∧ 1 ≤ need ∧ need ≤ tot ws
instance (ws : List Int) (need : Int) : Decidable (VBody ws need) := by unfold VBody; infer_instance
theorem impl_ValidBody_ok (ws : List Int) (hl : ws.length ≤ 4000000) (need : Int) : EvS (fun k => impl_ValidBody.f k ws need) (· = decide (VBody ws need)) := by
  simp only [impl_ValidBody.f]
  refine EvS.ite (fun c => EvS.now (decide_eq_false (fun g => by have := g.1; omega)).symm) (fun c1 => EvS.ite (fun c => EvS.now (decide_eq_false (fun g => by have := g.1; omega)).symm) (fun c2 => ?_))
  refine EvS.bindv (allWithin_ok ws (by omega) 0 100) (EvS.ite (fun c3 => EvS.ite (fun c4 => ?_) (fun c4 => EvS.now (decide_eq_false (fun g => c4 g.2.2.1)).symm)) (fun c3 => EvS.now (decide_eq_false (fun g => ndec c3 g.2.1)).symm))
  have c3 := of_decide_eq_true c3
  exact EvS.bindv (sumOf_ok ws (by omega) (fun x hx => by have := c3 x hx; omega)) (EvS.now (decide_eq_decide.2 ⟨fun g => ⟨by omega, c3, c4, g⟩, fun g => g.2.2.2⟩))
theorem spec_validBody_ok (ws : List Int) (hl : ws.length ≤ 4000000) (need : Int) : EvS (fun k => spec_validBody.f k ws need) (· = decide (VBody ws need)) := by
  simp only [spec_validBody.f]
  refine EvS.call (inRange_eq _ _ _) (EvS.ite (fun c1 => EvS.bindv (allIn_ok ws (by omega) 0 100) (EvS.ite (fun c3 => ?_) (fun c3 => EvS.now (decide_eq_false (fun g => ndec c3 g.2.1)).symm))) (fun c1 => EvS.now (decide_eq_false (fun g => ndec c1 (by have := g.1; omega))).symm))
  have c1 := of_decide_eq_true c1
  have c3 := of_decide_eq_true c3
  exact EvS.bindv (spec_total_ok ws (by omega) (fun x hx => by have := c3 x hx; omega)) (EvS.call (inRange_eq _ _ _) (EvS.now (decide_eq_decide.2 ⟨fun g => ⟨by omega, c3, g⟩, fun g => g.2.2⟩)))
/-! ## Members who vote together. -/
theorem mn_eq (a b : Int) : mn a b = if a ≤ b then a else b := by unfold mn; split <;> split <;> omega
theorem mx_eq (a b : Int) : mx a b = if a ≤ b then b else a := by unfold mx; split <;> split <;> omega
/-- Place a holds s, and place b is gone. -/
def mrg (a b s : Int) : Int → List Int → List Int
  | _, [] => []
  | j, y :: ys => if j = a then s :: mrg a b s (j + 1) ys else if j = b then mrg a b s (j + 1) ys else y :: mrg a b s (j + 1) ys
theorem mrg_past (a b s : Int) (ys : List Int) : ∀ j : Int, a < j → b < j → mrg a b s j ys = ys := by
  induction ys with
  | nil => intro j _ _; rfl
  | cons y ys ih => intro j h1 h2; simp only [mrg]; rw [if_neg (by omega), if_neg (by omega), ih (j + 1) (by omega) (by omega)]
theorem mrg_mid (a b s : Int) (ys : List Int) : ∀ j : Int, a < j → j ≤ b → b < j + ys.length → mrg a b s j ys = ys.eraseIdx (b - j).toNat := by
  induction ys with
  | nil => intro j _ h1 h2; simp at h2; omega
  | cons y ys ih =>
    intro j h1 h2 h3
    rw [List.length_cons] at h3
    simp only [mrg]
    rw [if_neg (by omega)]
    by_cases c : j = b
    · rw [if_pos c, mrg_past a b s ys (j + 1) (by omega) (by omega), show (b - j).toNat = 0 by omega]; rfl
    · rw [if_neg c, ih (j + 1) (by omega) (by omega) (by omega), show (b - j).toNat = (b - (j + 1)).toNat + 1 by omega]; rfl
theorem mrg_all (a b s : Int) (hab : a < b) (ys : List Int) : ∀ j : Int, j ≤ a → b < j + ys.length → mrg a b s j ys = (ys.set (a - j).toNat s).eraseIdx (b - j).toNat := by
  induction ys with
  | nil => intro j h1 h2; simp at h2; omega
  | cons y ys ih =>
    intro j h1 h3
    rw [List.length_cons] at h3
    simp only [mrg]
    by_cases c : j = a
    · rw [if_pos c, mrg_mid a b s ys (j + 1) (by omega) (by omega) (by omega), show (a - j).toNat = 0 by omega, show (b - j).toNat = (b - (j + 1)).toNat + 1 by omega]; rfl
    · rw [if_neg c, if_neg (by omega), ih (j + 1) (by omega) (by omega), show (a - j).toNat = (a - (j + 1)).toNat + 1 by omega, show (b - j).toNat = (b - (j + 1)).toNat + 1 by omega]; rfl
def VM (ws : List Int) (need i k : Int) : Prop := VBody ws need ∧ Diff [i, k] ws.length ∧ rd ws i + rd ws k ≤ 100
instance (ws : List Int) (need i k : Int) : Decidable (VM ws need i k) := by unfold VM; infer_instance
def mergeL (ws : List Int) (i k : Int) : List Int := (ws.set (mn i k).toNat (rd ws i + rd ws k)).eraseIdx (mx i k).toNat
def mergeB (ws : List Int) (need i k : Int) : List Int × Int := if VM ws need i k then (mergeL ws i k, need) else ([], 0)
theorem diff2 {i k n : Int} (h : Diff [i, k] n) : i ≠ k ∧ (0 ≤ i ∧ i < n) ∧ 0 ≤ k ∧ k < n := by
  have h1 := List.nodup_cons.1 h.1
  exact ⟨fun e => h1.1 (by simp [e]), h.2 i (by simp), h.2 k (by simp)⟩
theorem mm_range {i k n : Int} (h : Diff [i, k] n) : 0 ≤ mn i k ∧ mn i k < mx i k ∧ mx i k < n := by
  have := diff2 h
  rw [mn_eq, mx_eq]
  split <;> omega
theorem diff_pair {i k n : Int} (h : i ≠ k) (h1 : 0 ≤ i ∧ i < n) (h2 : 0 ≤ k ∧ k < n) : Diff [i, k] n := ⟨by simp [h], fun x hx => by simp at hx; omega⟩
theorem delete_eq (l : List Int) (i : Int) (h0 : 0 ≤ i) (h1 : i < l.length) : slices_Delete_int_int.f l i (i + 1) = some (l.eraseIdx i.toNat) := by
  unfold slices_Delete_int_int.f
  rw [if_pos h0, if_pos h1, if_pos rfl]
theorem clone_eq (l : List Int) (h : l.length ≤ 4000000) : slices_Clone_int_int.f l = some l := by
  unfold slices_Clone_int_int.f
  simp only [Option.bind_some, List.length_nil, List.nil_append]
  rw [if_pos (by omega)]
theorem impl_Merge_ok (ws : List Int) (hl : ws.length ≤ 4000000) (need i k : Int) : EvS (fun q => impl_MergeMembers.f q ws need i k) (· = mergeB ws need i k) := by
  have jt : ¬ VM ws need i k → EvS (fun q => impl_MergeMembers.j0 q i k true ws need) (· = mergeB ws need i k) := by
    intro g
    refine EvS.step (fun q => by rw [impl_MergeMembers.j0]) ?_
    exact EvS.pos rfl (EvS.now (by unfold mergeB; rw [if_neg g]))
  simp only [impl_MergeMembers.f]
  refine EvS.bindv (impl_ValidBody_ok ws hl need) (EvS.ite (fun c1 => EvS.ite (fun c2 => jt (fun g => (diff2 g.2.1).1 c2)) (fun c2 => EvS.bindv (differentBelow_ok [i, k] (by simp) _ (by omega) (by omega)) ?_)) (fun c1 => jt (fun g => ndec c1 g.1)))
  have hv := of_decide_eq_true c1
  by_cases c3 : Diff [i, k] ws.length
  · rw [decide_eq_true c3]
    have hd := diff2 c3
    have hm := mm_range c3
    have hi := rd_range hv.2.1 i hd.2.1.1 hd.2.1.2
    have hk := rd_range hv.2.1 k hd.2.2.1 hd.2.2.2
    have hn := hv.1
    refine EvS.step (fun q => by rw [impl_MergeMembers.j0]) ?_
    rw [w64 (x := rd ws i + rd ws k) (by omega) (by omega), w64 (x := mx i k + 1) (by omega) (by omega)]
    refine EvS.neg (by simp) (EvS.pos hd.2.1.1 (EvS.pos hd.2.1.2 (EvS.pos hd.2.2.1 (EvS.pos hd.2.2.2 (EvS.ite (fun c4 => EvS.now ?_) (fun c4 => EvS.call (clone_eq ws (by omega)) (EvS.pos hm.1 (EvS.pos (by omega) (EvS.call (delete_eq _ _ (by omega) (by rw [List.length_set]; omega)) (EvS.now ?_))))))))))
    · unfold mergeB; rw [if_neg (fun g => by have := g.2.2; omega)]
    · unfold mergeB; rw [if_pos ⟨hv, c3, by omega⟩]; rfl
  · rw [decide_eq_false c3]
    exact jt (fun g => c3 g.2.1)
theorem spec_merge_l0 (ws : List Int) (hn : ws.length ≤ 12) (hw : AllW ws 0 100) (need i k : Int) (hd : Diff [i, k] ws.length) (ys : List Int) : ∀ (j : Int) (out : List Int), At ws j ys → out.length ≤ j →
    EvS (fun q => spec_MergeMembers.l0 q i k j ws need out need) (· = (out ++ mrg (mn i k) (mx i k) (rd ws i + rd ws k) j ys, need)) := by
  have hd2 := diff2 hd
  have hi := rd_range hw i hd2.2.1.1 hd2.2.1.2
  have hk := rd_range hw k hd2.2.2.1 hd2.2.2.2
  induction ys with
  | nil =>
    intro j out h ho
    refine EvS.step (fun q => by rw [spec_MergeMembers.l0]) ?_
    exact EvS.neg (by have := h.ge; omega) (EvS.now (by simp [mrg]))
  | cons y ys ih =>
    intro j out h ho
    have h0 := h.nonneg
    have h1 := h.lt
    refine EvS.step (fun q => by rw [spec_MergeMembers.l0]) ?_
    rw [At.rd h, w64 (x := rd ws i + rd ws k) (by omega) (by omega), w64 (x := j + 1) (by omega) (by omega)]
    refine EvS.pos h.lt (EvS.ite (fun c => EvS.pos hd2.2.1.1 (EvS.pos hd2.2.1.2 (EvS.pos hd2.2.2.1 (EvS.pos hd2.2.2.2 (EvS.pos (by omega) ?_))))) (fun c => EvS.ite (fun c2 => ?_) (fun c2 => EvS.pos h0 (EvS.pos (by omega) ?_))))
    · refine EvS.mono (ih (j + 1) _ h.next (by simp; omega)) (fun r hr => ?_)
      rw [hr, mrg, if_pos c]; simp
    · refine EvS.mono (ih (j + 1) _ h.next (by omega)) (fun r hr => ?_)
      rw [hr, mrg, if_neg c, if_pos c2]
    · refine EvS.mono (ih (j + 1) _ h.next (by simp; omega)) (fun r hr => ?_)
      rw [hr, mrg, if_neg c, if_neg c2]; simp
theorem spec_Merge_ok (ws : List Int) (hl : ws.length ≤ 4000000) (need i k : Int) : EvS (fun q => spec_MergeMembers.f q ws need i k) (· = mergeB ws need i k) := by
  have jt : ¬ VM ws need i k → EvS (fun q => spec_MergeMembers.j0 q i k true ws need) (· = mergeB ws need i k) := by
    intro g
    refine EvS.step (fun q => by rw [spec_MergeMembers.j0]) ?_
    exact EvS.pos rfl (EvS.now (by unfold mergeB; rw [if_neg g]))
  simp only [spec_MergeMembers.f]
  refine EvS.bindv (spec_validBody_ok ws hl need) (EvS.ite (fun c1 => EvS.bindv (validMembers_ok [i, k] (by simp) _ (by omega) (by omega)) (EvS.ite (fun c3 => ?_) (fun c3 => jt (fun g => ndec c3 g.2.1)))) (fun c1 => jt (fun g => ndec c1 g.1)))
  have hv := of_decide_eq_true c1
  have c3 := of_decide_eq_true c3
  have hd := diff2 c3
  have hm := mm_range c3
  have hi := rd_range hv.2.1 i hd.2.1.1 hd.2.1.2
  have hk := rd_range hv.2.1 k hd.2.2.1 hd.2.2.2
  have hn := hv.1
  refine EvS.pos hd.2.1.1 (EvS.pos hd.2.1.2 (EvS.pos hd.2.2.1 (EvS.pos hd.2.2.2 ?_)))
  rw [w64 (x := rd ws i + rd ws k) (by omega) (by omega)]
  by_cases c4 : rd ws i + rd ws k > 100
  · rw [decide_eq_true c4]
    exact jt (fun g => by have := g.2.2; omega)
  · rw [decide_eq_false c4]
    refine EvS.step (fun q => by rw [spec_MergeMembers.j0]) ?_
    refine EvS.neg (by simp) (EvS.mono (spec_merge_l0 ws hn.2 hv.2.1 need i k c3 ws 0 [] (At.zero _) (by simp)) (fun r hr => ?_))
    rw [hr]
    unfold mergeB
    rw [if_pos ⟨hv, c3, by omega⟩, mrg_all _ _ _ hm.2.1 ws 0 hm.1 (by omega), Int.sub_zero, Int.sub_zero]
    rfl
/-! ## Amounts divided into equal parts. -/
theorem list_ext {xs ys : List Int} (hl : xs.length = ys.length) (h : ∀ i : Int, 0 ≤ i → i < xs.length → rd xs i = rd ys i) : xs = ys := by
  apply List.ext_getElem hl
  intro n h1 h2
  have := h n (by omega) (by omega)
  unfold rd at this
  simp only [Int.toNat_natCast] at this
  rw [List.getD_eq_getElem?_getD, List.getD_eq_getElem?_getD, List.getElem?_eq_getElem h1, List.getElem?_eq_getElem h2] at this
  exact this
theorem rd_set (xs : List Int) (i j v : Int) (h0 : 0 ≤ i) (h1 : i < xs.length) (h2 : 0 ≤ j) : rd (xs.set i.toNat v) j = if i = j then v else rd xs j := by
  unfold rd
  rw [List.getD_eq_getElem?_getD, List.getElem?_set]
  by_cases c : i = j
  · subst c; rw [if_pos rfl, if_pos (by omega), if_pos rfl]; rfl
  · rw [if_neg (by omega), if_neg c, List.getD_eq_getElem?_getD]
theorem rd_zeros (n : Nat) (j : Int) : rd (List.replicate n 0) j = 0 := by
  unfold rd
  rw [List.getD_eq_getElem?_getD, List.getElem?_replicate]
  split <;> rfl
theorem rd_snoc (xs : List Int) (v j : Int) (h0 : 0 ≤ j) : rd (xs ++ [v]) j = if j < xs.length then rd xs j else if j = xs.length then v else 0 := by
  unfold rd
  rw [List.getD_eq_getElem?_getD, List.getD_eq_getElem?_getD]
  by_cases c : j < xs.length
  · rw [if_pos c, List.getElem?_append_left (by omega)]
  · rw [if_neg c, List.getElem?_append_right (by omega)]
    by_cases c2 : j = xs.length
    · rw [if_pos c2, c2]; simp
    · rw [if_neg c2, List.getElem?_eq_none (by simp; omega)]; rfl
/-! ## What an exact law asks of lists of numbers. -/
theorem toIntS_l0 (xs : List Int) (hl : xs.length ≤ 4000000) (ys : List Int) : ∀ (i : Int) (s : List Int), At xs i ys → s.length = xs.length → (∀ j : Int, 0 ≤ j → j < i → rd s j = rd xs j) → EvS (fun k => laws_toIntS.l0 k xs s i) (· = xs) := by
  induction ys with
  | nil =>
    intro i s h h1 h2
    have := h.ge
    refine EvS.step (fun k => by rw [laws_toIntS.l0]) ?_
    exact EvS.neg (by omega) (EvS.now (list_ext h1 (fun j j0 j1 => h2 j j0 (by omega))))
  | cons y ys ih =>
    intro i s h h1 h2
    have g1 := h.lt
    have g2 := h.nonneg
    refine EvS.step (fun k => by rw [laws_toIntS.l0]) ?_
    refine EvS.pos h.lt (EvS.pos h.nonneg (EvS.pos (by omega) ?_))
    refine ih _ _ (h.wnext (by omega)) (by simpa using h1) (fun j j0 j1 => ?_)
    rw [w64 (by omega) (by omega)] at j1
    rw [rd_set _ _ _ _ g2 (by omega) j0]
    by_cases e : i = j
    · rw [if_pos e, e]
    · rw [if_neg e]; exact h2 j j0 (by omega)
theorem toIntS_ok (xs : List Int) (hl : xs.length ≤ 4000000) : EvS (fun k => laws_toIntS.f k xs) (· = xs) := by
  simp only [laws_toIntS.f]
  exact EvS.pos (by omega) (EvS.pos (by omega) (toIntS_l0 xs hl xs 0 _ (At.zero _) (by simp) (fun j j0 j1 => by omega)))
theorem eqIntS_l0 (xs : List Int) (hl : xs.length ≤ 4000000) (ys : List Int) : ∀ i : Int, At xs i ys → EvS (fun k => laws_eqIntS.l0 k xs xs i) (· = true) := by
  induction ys with
  | nil =>
    intro i h
    refine EvS.step (fun k => by rw [laws_eqIntS.l0]) ?_
    exact EvS.neg (by have := h.ge; omega) (EvS.now rfl)
  | cons y ys ih =>
    intro i h
    refine EvS.step (fun k => by rw [laws_eqIntS.l0]) ?_
    exact EvS.pos h.lt (EvS.pos h.nonneg (EvS.pos h.lt (EvS.pos (by simp) (ih _ (h.wnext (by omega))))))
theorem eqIntS_ok (xs : List Int) (hl : xs.length ≤ 4000000) : EvS (fun k => laws_eqIntS.f k xs xs) (· = true) := by
  simp only [laws_eqIntS.f]
  exact EvS.pos (by trivial) (eqIntS_l0 xs hl xs 0 (At.zero xs))
structure Marked (k : Int) (n : Nat) (m : List Int) : Prop where
  len : m.length = n
  val : ∀ j : Int, 0 ≤ j → j < n → rd m j = k + j
theorem markIntS_l0 (n : Nat) (hn : n ≤ 4000000) (k0 : Int) (h0 : 0 ≤ k0) (h1 : k0 ≤ 1099511627776) (d : Nat) : ∀ (i : Int) (m : List Int), i + d = n → 0 ≤ i → m.length = n → (∀ j : Int, 0 ≤ j → j < i → rd m j = k0 + j) →
    EvS (fun k => laws_markIntS.l0 k m (k0 + i) i) (fun r => r.1 = k0 + n ∧ Marked k0 n r.2) := by
  induction d with
  | zero =>
    intro i m e1 e2 e3 e4
    refine EvS.step (fun k => by rw [laws_markIntS.l0]) ?_
    exact EvS.neg (by omega) (EvS.now ⟨by dsimp only; omega, e3, fun j j0 j1 => e4 j j0 (by omega)⟩)
  | succ d ih =>
    intro i m e1 e2 e3 e4
    refine EvS.step (fun k => by rw [laws_markIntS.l0]) ?_
    refine EvS.pos (by omega) (EvS.pos e2 ?_)
    rw [w64 (x := k0 + i + 1) (by omega) (by omega), w64 (x := i + 1) (by omega) (by omega), show k0 + i + 1 = k0 + (i + 1) by omega]
    refine ih _ _ (by omega) (by omega) (by simpa using e3) (fun j j0 j1 => ?_)
    rw [rd_set _ _ _ _ e2 (by omega) j0]
    by_cases e : i = j
    · rw [if_pos e, e]
    · rw [if_neg e]; exact e4 j j0 (by omega)
theorem markIntS_ok (xs : List Int) (hl : xs.length ≤ 4000000) (k0 : Int) (h0 : 0 ≤ k0) (h1 : k0 ≤ 1099511627776) : EvS (fun k => laws_markIntS.f k xs k0) (fun r => r.1 = k0 + xs.length ∧ Marked k0 xs.length r.2) := by
  simp only [laws_markIntS.f]
  have := markIntS_l0 xs.length hl k0 h0 h1 xs.length 0 xs (by omega) (by omega) rfl (fun j j0 j1 => by omega)
  rw [show k0 + 0 = k0 by omega] at this
  exact this
theorem heldIntS_l0 (n : Nat) (hn : n ≤ 4000000) (k0 : Int) (h0 : 0 ≤ k0) (h1 : k0 ≤ 1099511627776) (m : List Int) (hm : Marked k0 n m) (d : Nat) : ∀ i : Int, i + d = n → 0 ≤ i → EvS (fun k => laws_heldIntS.l0 k m (k0 + i) i) (· = k0 + n) := by
  have e3 := hm.len
  induction d with
  | zero =>
    intro i e1 e2
    refine EvS.step (fun k => by rw [laws_heldIntS.l0]) ?_
    exact EvS.neg (by omega) (EvS.now (by omega))
  | succ d ih =>
    intro i e1 e2
    refine EvS.step (fun k => by rw [laws_heldIntS.l0]) ?_
    refine EvS.pos (by omega) (EvS.pos e2 (EvS.pos (hm.val i e2 (by omega)) ?_))
    rw [w64 (x := k0 + i + 1) (by omega) (by omega), w64 (x := i + 1) (by omega) (by omega), show k0 + i + 1 = k0 + (i + 1) by omega]
    exact ih _ (by omega) (by omega)
theorem heldIntS_ok (n : Nat) (hn : n ≤ 4000000) (k0 : Int) (h0 : 0 ≤ k0) (h1 : k0 ≤ 1099511627776) (m : List Int) (hm : Marked k0 n m) : EvS (fun k => laws_heldIntS.f k m k0) (· = k0 + n) := by
  simp only [laws_heldIntS.f]
  have := heldIntS_l0 n hn k0 h0 h1 m hm n 0 (by omega) (by omega)
  rw [show k0 + 0 = k0 by omega] at this
  exact this
/-! ## What an exact law asks of a body. -/
theorem szBody_eq (ws : List Int) (need : Int) (hx : ws.length ≤ 9223372036854775807) : laws_szBody.f ws need 1048576 = some (if (1048576 : Int) - (ws.length : Int) < 0 then (-1 : Int) else (1048576 : Int) - (ws.length : Int)) := by
  unfold laws_szBody.f laws_szIntS.f
  rw [w64 (x := 1048576 - (ws.length : Int)) (by omega) (by omega)]
  by_cases c : (1048576 : Int) - ws.length < 0
  · simp only [if_pos c, Option.bind_some]; rfl
  · simp only [if_neg c, Option.bind_some]
theorem toBody_ok (ws : List Int) (need : Int) (hl : ws.length ≤ 1048576) : EvS (fun k => laws_toBody.f k ws need) (· = (ws, need)) := by
  simp only [laws_toBody.f]
  exact EvS.bindv (toIntS_ok ws (by omega)) (EvS.now rfl)
theorem eqBody_ok (ws : List Int) (need : Int) (hl : ws.length ≤ 4000000) : EvS (fun k => laws_eqBody.f k ws need ws need) (· = true) := by
  simp only [laws_eqBody.f]
  exact EvS.bindv (eqIntS_ok ws hl) (EvS.pos rfl (EvS.pos (by trivial) (EvS.now rfl)))
theorem markBody_ok (ws : List Int) (need : Int) (hl : ws.length ≤ 4000000) : EvS (fun k => laws_markBody.f k ws need 1) (fun r => r.1 = 1 + ws.length ∧ Marked 1 ws.length r.2) := by
  simp only [laws_markBody.f]
  exact EvS.bind (markIntS_ok ws hl 1 (by omega) (by omega)) (fun r hr => EvS.now hr)
theorem heldBody_ok (n : Nat) (hn : n ≤ 4000000) (need : Int) (m : List Int) (hm : Marked 1 n m) : EvS (fun k => laws_heldBody.f k m need 1) (· = 1 + n) := by
  simp only [laws_heldBody.f]
  exact EvS.bindv (heldIntS_ok n hn 1 (by omega) (by omega) m hm) (EvS.neg (by omega) (EvS.now rfl))
theorem FnExactMergeMembers (l0_0 : List Int) (g0_0 : l0_0.length ≤ 9223372036854775807 ∧ ∀ y0 ∈ l0_0, (Lit.int .i64 y0).wf = true) (a0_1 : Int) (g0_1 : (Lit.int .i64 a0_1).wf = true) (a1 : Int) (g1 : (Lit.int .i64 a1).wf = true) (a2 : Int) (g2 : (Lit.int .i64 a2).wf = true) : ∃ k, laws_FnExactMergeMembers.f k l0_0 a0_1 a1 a2 = some true := by
  refine EvS.holds ?_
  simp only [laws_FnExactMergeMembers.f]
  refine EvS.call (szBody_eq l0_0 a0_1 g0_0.1) ?_
  by_cases c1 : (1048576 : Int) - l0_0.length < 0
  · rw [if_pos c1]; exact EvS.pos (by omega) (EvS.now rfl)
  · rw [if_neg c1]
    have hb := toBody_ok l0_0 a0_1 (by omega)
    have hlen : (mergeB l0_0 a0_1 a1 a2).1.length ≤ 1048576 := by
      unfold mergeB
      split
      · unfold mergeL
        have := List.length_eraseIdx_le (l0_0.set (mn a1 a2).toNat (rd l0_0 a1 + rd l0_0 a2)) (mx a1 a2).toNat
        rw [List.length_set] at this
        dsimp only
        omega
      · simp
    have hi := impl_Merge_ok l0_0 (by omega) a0_1 a1 a2
    have hs := spec_Merge_ok l0_0 (by omega) a0_1 a1 a2
    generalize mergeB l0_0 a0_1 a1 a2 = M at hi hs hlen
    obtain ⟨v, d⟩ := M
    dsimp only at hlen
    have he := eqBody_ok v d (by omega)
    refine EvS.neg c1 (EvS.bindv hb (EvS.bindv hs (EvS.bindv hb (EvS.bindv hi (EvS.bindv he (EvS.pos rfl (EvS.bindv hb (EvS.bindv (eqBody_ok l0_0 a0_1 (by omega)) (EvS.pos rfl (EvS.bind (markBody_ok l0_0 a0_1 (by omega)) ?_))))))))))
    rintro ⟨m0, ml⟩ ⟨h1, h2⟩
    dsimp only at h1 h2 ⊢
    refine EvS.neg (by omega) (EvS.bindv he ?_)
    refine EvS.step (fun k => by rw [laws_FnExactMergeMembers.j0]) ?_
    refine EvS.neg (by simp) (EvS.bind (markBody_ok v d (by omega)) ?_)
    rintro ⟨m1, ml1⟩ ⟨h3, h4⟩
    dsimp only at h3 h4 ⊢
    have hh := heldBody_ok v.length (by omega) d ml1 h4
    exact EvS.bindv hh (EvS.neg (by omega) (EvS.pos h3.symm (EvS.bindv hb (EvS.bindv hi (EvS.bindv he (EvS.pos rfl (EvS.bindv hh (EvS.neg (by omega) (EvS.pos h3.symm (EvS.now rfl))))))))))
end Go.Proofs.Ytkbgcnpjamadeaa.Pure
