/- HasRing is what the reference tells, for all loans. Conditions: none. -/
import Derived.Test.YtehomgbacebgeaaPFnExactHasRingx0
import Derived.Test.YtehomgbacebgeaaMFnExactHasRingx1
import Derived.Test.YtehomgbacebgeaaMFnExactHasRingx2
import Derived.Test.YtehomgbacebgeaaMFnExactHasRingx3
import Derived.Test.YtehomgbacebgeaaMFnExactHasRingx4
import Derived.Test.YtehomgbacebgeaaMFnExactHasRingx5
import Derived.Test.YtehomgbacebgeaaMFnExactHasRingx6
import Derived.Test.YtehomgbacebgeaaBase
set_option linter.unusedVariables false
set_option linter.unusedSimpArgs false
namespace Go.Proofs.Ytehomgbacebgeaa.Pure
open Go.RowKit Go.Proofs.Ytehomgbacebgeaa.PFnExactHasRing Go.Proofs.YtehomgbacebgeaaW.PrintWords Go.Proofs.YtehomgbacebgeaaW.PrintLast Go.Proofs.YtehomgbacebgeaaW.PrintMore Go.Proofs.Ytehomgbacebgeaa.Base
theorem u8_range {x : Int} (h : (Lit.int .u8 x).wf = true) : 0 ≤ x ∧ x ≤ 255 := by
  simp [Lit.wf, IntKind.min, IntKind.max, IntKind.bits, IntKind.signed] at h
  omega
/-! ## Lists of numbers. -/
theorem inRange_eq (n lo hi : Int) : spec_inRange.f n lo hi = some (decide (lo ≤ n ∧ n ≤ hi)) := by
  unfold spec_inRange.f
  split
  · exact congrArg some (decide_eq_decide.2 (by omega))
  · exact congrArg some (decide_eq_false (by omega)).symm
def AllW (xs : List Int) (lo hi : Int) : Prop := ∀ x ∈ xs, lo ≤ x ∧ x ≤ hi
instance (xs : List Int) (lo hi : Int) : Decidable (AllW xs lo hi) := by unfold AllW; infer_instance
theorem allW_cons (y : Int) (ys : List Int) (lo hi : Int) : AllW (y :: ys) lo hi ↔ (lo ≤ y ∧ y ≤ hi) ∧ AllW ys lo hi := by
  unfold AllW; simp
/-- The first place of a number, counted from i on; -1 if it is not there. -/
def posF (v : Int) : Int → List Int → Int
  | _, [] => -1
  | i, x :: xs => if x = v then i else posF v (i + 1) xs
theorem posF_range (v : Int) (xs : List Int) : ∀ i : Int, 0 ≤ i → (v ∈ xs → i ≤ posF v i xs ∧ posF v i xs < i + xs.length) ∧ (v ∉ xs → posF v i xs = -1) := by
  induction xs with
  | nil => intro i h0; exact ⟨fun h => by simp at h, fun _ => rfl⟩
  | cons x xs ih =>
    intro i h0
    have h := ih (i + 1) (by omega)
    simp only [posF, List.length_cons]
    by_cases c : x = v
    · rw [if_pos c]; exact ⟨fun _ => by omega, fun g => absurd (by simp [c]) g⟩
    · rw [if_neg c]
      refine ⟨fun g => ?_, fun g => h.2 (fun g2 => g (List.mem_cons_of_mem _ g2))⟩
      have := h.1 ((List.mem_cons.1 g).resolve_left (fun e => c e.symm))
      omega
theorem posF_nonneg (v : Int) (xs : List Int) (i : Int) (h : 0 ≤ i) : (0 ≤ posF v i xs) ↔ v ∈ xs := by
  by_cases c : v ∈ xs
  · have := (posF_range v xs i h).1 c; exact ⟨fun _ => c, fun _ => by omega⟩
  · have := (posF_range v xs i h).2 c; exact ⟨fun g => by omega, fun g => absurd g c⟩
theorem placeIn_l0 (xs : List Int) (hl : xs.length ≤ 1099511627776) (v : Int) (ys : List Int) : ∀ i : Int, At xs i ys → EvS (fun k => spec_placeIn.l0 k xs v i) (· = posF v i ys) := by
  induction ys with
  | nil =>
    intro i h
    refine EvS.step (fun k => by rw [spec_placeIn.l0]) ?_
    exact EvS.neg (by have := h.ge; omega) (EvS.now rfl)
  | cons y ys ih =>
    intro i h
    have h1 := h.lt
    have h2 := h.nonneg
    have hw : wrap64 (i + 1) = i + 1 := w64 (by omega) (by omega)
    refine EvS.step (fun k => by rw [spec_placeIn.l0]) ?_
    refine EvS.pos h.lt (EvS.pos h.nonneg ?_)
    rw [At.rd h, hw, posF]
    by_cases c : y = v
    · rw [if_pos c]; exact EvS.pos c (EvS.now rfl)
    · rw [if_neg c]; exact EvS.neg c (ih _ h.next)
theorem placeIn_ok (xs : List Int) (hl : xs.length ≤ 1099511627776) (v : Int) : EvS (fun k => spec_placeIn.f k xs v) (· = posF v 0 xs) := by
  simp only [spec_placeIn.f]
  exact placeIn_l0 xs hl v xs 0 (At.zero xs)
theorem index_l0 (xs : List Int) (hl : xs.length ≤ 1099511627776) (v : Int) (ys : List Int) : ∀ i : Int, At xs i ys → EvS (fun k => slices_Index_int_int.l0 k xs v xs.length i) (· = posF v i ys) := by
  induction ys with
  | nil =>
    intro i h
    refine EvS.step (fun k => by rw [slices_Index_int_int.l0]) ?_
    exact EvS.neg (by have := h.ge; omega) (EvS.now rfl)
  | cons y ys ih =>
    intro i h
    have h1 := h.lt
    have h2 := h.nonneg
    have hw : wrap64 (i + 1) = i + 1 := w64 (by omega) (by omega)
    refine EvS.step (fun k => by rw [slices_Index_int_int.l0]) ?_
    refine EvS.pos h.lt (EvS.pos h.nonneg (EvS.pos h.lt ?_))
    rw [At.rd h, hw, posF]
    by_cases c : y = v
    · rw [if_pos c]; exact EvS.pos c.symm (EvS.now rfl)
    · rw [if_neg c]; exact EvS.neg (fun g => c g.symm) (ih _ h.next)
theorem index_ok (xs : List Int) (hl : xs.length ≤ 1099511627776) (v : Int) : EvS (fun k => slices_Index_int_int.f k xs v) (· = posF v 0 xs) := by
  simp only [slices_Index_int_int.f]
  exact index_l0 xs hl v xs 0 (At.zero xs)
theorem contains_ok (xs : List Int) (hl : xs.length ≤ 1099511627776) (v : Int) : EvS (fun k => slices_Contains_int_int.f k xs v) (· = decide (v ∈ xs)) := by
  simp only [slices_Contains_int_int.f]
  exact EvS.bindv (index_ok xs hl v) (EvS.now (decide_eq_decide.2 (posF_nonneg v xs 0 (by omega))))
/-- Different numbers from 0 to n - 1. -/
def Diff (xs : List Int) (n : Int) : Prop := xs.Nodup ∧ ∀ x ∈ xs, 0 ≤ x ∧ x < n
instance (xs : List Int) (n : Int) : Decidable (Diff xs n) := by unfold Diff; infer_instance
def DiffF (pre ys : List Int) (n : Int) : Prop := ys.Nodup ∧ ∀ y ∈ ys, 0 ≤ y ∧ y < n ∧ y ∉ pre
instance (pre ys : List Int) (n : Int) : Decidable (DiffF pre ys n) := by unfold DiffF; infer_instance
theorem diffF_cons (pre : List Int) (y : Int) (ys : List Int) (n : Int) : DiffF pre (y :: ys) n ↔ (0 ≤ y ∧ y < n ∧ y ∉ pre) ∧ DiffF (y :: pre) ys n := by
  unfold DiffF
  constructor
  · rintro ⟨h1, h2⟩
    have h1 := List.nodup_cons.1 h1
    refine ⟨h2 y List.mem_cons_self, h1.2, fun z hz => ?_⟩
    have := h2 z (List.mem_cons_of_mem _ hz)
    refine ⟨this.1, this.2.1, fun hm => ?_⟩
    rcases List.mem_cons.1 hm with rfl | hm
    · exact h1.1 hz
    · exact this.2.2 hm
  · rintro ⟨h1, h2, h3⟩
    refine ⟨List.nodup_cons.2 ⟨fun hm => (h3 y hm).2.2 List.mem_cons_self, h2⟩, fun z hz => ?_⟩
    rcases List.mem_cons.1 hz with rfl | hz
    · exact h1
    · have := h3 z hz
      exact ⟨this.1, this.2.1, fun hm => this.2.2 (List.mem_cons_of_mem _ hm)⟩
theorem diffF_congr {p q ys : List Int} {n : Int} (h : ∀ x, x ∈ p ↔ x ∈ q) : DiffF p ys n ↔ DiffF q ys n := by
  unfold DiffF
  simp only [h]
theorem diffF_nil (xs : List Int) (n : Int) : DiffF [] xs n ↔ Diff xs n := by
  unfold DiffF Diff; simp
theorem diff_len {xs : List Int} {n : Int} (h : Diff xs n) : (xs.length : Int) ≤ n ∨ xs = [] := by
  rcases xs with _ | ⟨x, xs⟩
  · exact .inr rfl
  · left
    have h1 : 0 ≤ n := by have := h.2 x List.mem_cons_self; omega
    have h2 : (x :: xs) ⊆ (List.range n.toNat).map (fun m : Nat => (m : Int)) := by
      intro y hy
      have := h.2 y hy
      exact List.mem_map.2 ⟨y.toNat, List.mem_range.2 (by omega), by omega⟩
    have h3 := h.1.length_le_of_subset h2
    rw [List.length_map, List.length_range] at h3
    omega
theorem differentBelow_l0 (xs : List Int) (hl : xs.length ≤ 1099511627776) (n : Int) (ys : List Int) : ∀ (i : Int) (seen : List Bool) (pre : List Int), At xs i ys → (seen.length : Int) = n → (∀ v : Int, 0 ≤ v → v < n → (rdOf false seen v = true ↔ v ∈ pre)) →
    EvS (fun k => impl_differentBelow.l0 k n seen xs xs.length i) (· = decide (DiffF pre ys n)) := by
  induction ys with
  | nil =>
    intro i seen pre h hs hv
    refine EvS.step (fun k => by rw [impl_differentBelow.l0]) ?_
    exact EvS.neg (by have := h.ge; omega) (EvS.now (by simp [DiffF]))
  | cons y ys ih =>
    intro i seen pre h hs hv
    refine EvS.step (fun k => by rw [impl_differentBelow.l0]) ?_
    refine EvS.pos h.lt (EvS.pos h.nonneg (EvS.pos h.lt ?_))
    rw [At.rd h]
    refine EvS.ite (fun c => EvS.now (decide_eq_false (fun g => by have := ((diffF_cons _ _ _ _).1 g).1; omega)).symm) (fun c1 => EvS.ite (fun c => EvS.now (decide_eq_false (fun g => by have := ((diffF_cons _ _ _ _).1 g).1; omega)).symm) (fun c2 => EvS.pos (by omega) (EvS.pos (by omega) ?_)))
    have hy := hv y (by omega) (by omega)
    refine EvS.ite (fun c => EvS.now (decide_eq_false (fun g => ((diffF_cons _ _ _ _).1 g).1.2.2 (hy.1 c))).symm) (fun c3 => ?_)
    refine EvS.mono (ih _ (seen.set y.toNat true) (y :: pre) (h.wnext (by omega)) (by simpa using hs) (fun v h0 h1 => ?_)) (fun r hr => ?_)
    · unfold rdOf
      rw [List.getD_eq_getElem?_getD, List.getElem?_set]
      by_cases e : y = v
      · subst e
        rw [if_pos rfl, if_pos (by omega)]
        exact ⟨fun _ => List.mem_cons_self, fun _ => rfl⟩
      · rw [if_neg (by omega)]
        have := hv v h0 h1
        unfold rdOf at this
        rw [List.getD_eq_getElem?_getD] at this
        rw [this, List.mem_cons]
        exact ⟨fun g => .inr g, fun g => g.resolve_left (fun e2 => e e2.symm)⟩
    · rw [hr]
      exact decide_eq_decide.2 ⟨fun g => (diffF_cons _ _ _ _).2 ⟨⟨by omega, by omega, fun hm => c3 (hy.2 hm)⟩, g⟩, fun g => ((diffF_cons _ _ _ _).1 g).2⟩
theorem differentBelow_ok (xs : List Int) (hl : xs.length ≤ 1099511627776) (n : Int) (hn : n ≤ 1099511627776) (h0 : 0 ≤ n) : EvS (fun k => impl_differentBelow.f k xs n) (· = decide (Diff xs n)) := by
  simp only [impl_differentBelow.f]
  refine EvS.ite (fun c => EvS.now (decide_eq_false (fun g => ?_)).symm) (fun c => EvS.pos h0 (EvS.pos (by omega) ?_))
  · rcases diff_len g with h | h
    · omega
    · subst h; simp at c; omega
  · refine EvS.mono (differentBelow_l0 xs hl n xs 0 _ [] (At.zero xs) (by simp; omega) (fun v _ _ => ?_)) (fun r hr => ?_)
    · unfold rdOf
      rw [List.getD_eq_getElem?_getD, List.getElem?_replicate]
      split <;> simp
    · rw [hr]
      exact decide_eq_decide.2 (diffF_nil xs n)
theorem validMembers_l0 (xs : List Int) (hl : xs.length ≤ 1099511627776) (n : Int) (hn : n ≤ 1099511627776) (h0 : 0 ≤ n) (ys : List Int) : ∀ i : Int, At xs i ys → EvS (fun k => spec_validMembers.l0 k xs n i) (· = decide (DiffF (xs.take i.toNat) ys n)) := by
  induction ys with
  | nil =>
    intro i h
    refine EvS.step (fun k => by rw [spec_validMembers.l0]) ?_
    exact EvS.neg (by have := h.ge; omega) (EvS.now (by simp [DiffF]))
  | cons y ys ih =>
    intro i h
    have h1 := h.lt
    have h2 := h.nonneg
    have hw : wrap64 (i + 1) = i + 1 := w64 (by omega) (by omega)
    refine EvS.step (fun k => by rw [spec_validMembers.l0]) ?_
    refine EvS.pos h.lt (EvS.pos h.nonneg ?_)
    rw [At.rd h, hw, w64 (x := n - 1) (by omega) (by omega)]
    refine EvS.call (inRange_eq _ _ _) (EvS.ite (fun c => EvS.pos (by omega) ?_) (fun c => EvS.now ?_))
    · have c := of_decide_eq_true c
      refine EvS.bindv (placeIn_ok _ (by rw [List.length_take]; omega) y) ?_
      have hp := posF_nonneg y (xs.take i.toNat) 0 (by omega)
      refine EvS.ite (fun g => EvS.now (decide_eq_false (fun g2 => ((diffF_cons _ _ _ _).1 g2).1.2.2 (hp.1 g))).symm) (fun g => ?_)
      refine EvS.mono (ih _ h.next) (fun r hr => ?_)
      rw [hr]
      refine decide_eq_decide.2 (Iff.trans (diffF_congr (q := y :: xs.take i.toNat) (fun x => ?_)) ⟨fun g2 => (diffF_cons _ _ _ _).2 ⟨⟨c.1, by omega, fun hm => g (hp.2 hm)⟩, g2⟩, fun g2 => ((diffF_cons _ _ _ _).1 g2).2⟩)
      simp only [h.take, List.mem_append, List.mem_cons, List.not_mem_nil, or_false]
      exact or_comm
    · have c := ndec c
      exact (decide_eq_false (fun g => c (by have := ((diffF_cons _ _ _ _).1 g).1; omega))).symm
theorem validMembers_ok (xs : List Int) (hl : xs.length ≤ 1099511627776) (n : Int) (hn : n ≤ 1099511627776) (h0 : 0 ≤ n) : EvS (fun k => spec_validMembers.f k xs n) (· = decide (Diff xs n)) := by
  simp only [spec_validMembers.f]
  refine EvS.mono (validMembers_l0 xs hl n hn h0 xs 0 (At.zero xs)) (fun r hr => ?_)
  rw [hr]
  exact decide_eq_decide.2 (diffF_nil xs n)
/-! ## Bodies that vote. -/
def tot : List Int → Int
  | [] => 0
  | x :: xs => x + tot xs
theorem tot_range {xs : List Int} {hi : Int} (h0 : 0 ≤ hi) (h : AllW xs 0 hi) : 0 ≤ tot xs ∧ tot xs ≤ xs.length * hi := by
  induction xs with
  | nil => simp [tot]
  | cons x xs ih =>
    have h1 := (allW_cons _ _ _ _).1 h
    have h2 := ih h1.2
    simp only [tot, List.length_cons, Int.natCast_add, Int.add_mul]
    omega
theorem tot_bound {xs : List Int} (h : ∀ x ∈ xs, -1000000000000 ≤ x ∧ x ≤ 1000000000000) : -(1000000000000 * (xs.length : Int)) ≤ tot xs ∧ tot xs ≤ 1000000000000 * xs.length := by
  induction xs with
  | nil => simp [tot]
  | cons x xs ih =>
    have h1 := h x List.mem_cons_self
    have h2 := ih (fun y hy => h y (List.mem_cons_of_mem _ hy))
    simp only [tot, List.length_cons]
    omega
/-! ## Amounts divided into equal parts. -/
theorem list_ext {xs ys : List Int} (hl : xs.length = ys.length) (h : ∀ i : Int, 0 ≤ i → i < xs.length → rd xs i = rd ys i) : xs = ys := by
  apply List.ext_getElem hl
  intro n h1 h2
  have := h n (by omega) (by omega)
  unfold rd at this
  simp only [Int.toNat_natCast] at this
  rw [List.getD_eq_getElem?_getD, List.getD_eq_getElem?_getD, List.getElem?_eq_getElem h1, List.getElem?_eq_getElem h2] at this
  exact this
theorem rd_set (xs : List Int) (i j v : Int) (h0 : 0 ≤ i) (h1 : i < xs.length) (h2 : 0 ≤ j) : rd (xs.set i.toNat v) j = if i = j then v else rd xs j := by
  unfold rd
  rw [List.getD_eq_getElem?_getD, List.getElem?_set]
  by_cases c : i = j
  · subst c; rw [if_pos rfl, if_pos (by omega), if_pos rfl]; rfl
  · rw [if_neg (by omega), if_neg c, List.getD_eq_getElem?_getD]
theorem rd_zeros (n : Nat) (j : Int) : rd (List.replicate n 0) j = 0 := by
  unfold rd
  rw [List.getD_eq_getElem?_getD, List.getElem?_replicate]
  split <;> rfl
theorem rd_snoc (xs : List Int) (v j : Int) (h0 : 0 ≤ j) : rd (xs ++ [v]) j = if j < xs.length then rd xs j else if j = xs.length then v else 0 := by
  unfold rd
  rw [List.getD_eq_getElem?_getD, List.getD_eq_getElem?_getD]
  by_cases c : j < xs.length
  · rw [if_pos c, List.getElem?_append_left (by omega)]
  · rw [if_neg c, List.getElem?_append_right (by omega)]
    by_cases c2 : j = xs.length
    · rw [if_pos c2, c2]; simp
    · rw [if_neg c2, List.getElem?_eq_none (by simp; omega)]; rfl
/-! ## Valid loans. -/
def VL (m : Int) (e : S30) : Prop := (0 ≤ e.f0 ∧ e.f0 < m) ∧ (1 ≤ e.f1 ∧ e.f1 ≤ 100000) ∧ 1 ≤ e.f2.length ∧ Diff e.f2 m ∧ e.f0 ∉ e.f2
instance (m : Int) (e : S30) : Decidable (VL m e) := by unfold VL; infer_instance
def VLs (l : List S30) (m : Int) : Prop := (1 ≤ m ∧ m ≤ 12) ∧ l.length ≤ 16 ∧ ∀ e ∈ l, VL m e
instance (l : List S30) (m : Int) : Decidable (VLs l m) := by unfold VLs; infer_instance
/-- Lists short enough for the machine. -/
def Sh (l : List S30) : Prop := l.length ≤ 2000000 ∧ ∀ e ∈ l, e.f2.length ≤ 2000000
theorem at_rdL {xs ys : List S30} {i : Int} {y : S30} (h : At xs i (y :: ys)) : rd_T30 xs i = y := h.getD _
theorem all_cons {α : Type} {P : α → Prop} {y : α} {ys : List α} (h : P y) : (∀ e ∈ y :: ys, P e) ↔ ∀ e ∈ ys, P e :=
  ⟨fun g e he => g e (List.mem_cons_of_mem _ he), fun g e he => by rcases List.mem_cons.1 he with rfl | he; exact h; exact g e he⟩
theorem impl_ValidLoans_l0 (xs : List S30) (hl : Sh xs) (m : Int) (hm : 1 ≤ m ∧ m ≤ 12) (ys : List S30) : ∀ i : Int, At xs i ys → EvS (fun k => impl_ValidLoans.l0 k m xs xs.length i) (· = decide (∀ e ∈ ys, VL m e)) := by
  have hxl := hl.1
  induction ys with
  | nil =>
    intro i h
    refine EvS.step (fun k => by rw [impl_ValidLoans.l0]) ?_
    exact EvS.neg (by have := h.ge; omega) (EvS.now (by simp))
  | cons y ys ih =>
    intro i h
    have hy := hl.2 y h.mem
    refine EvS.step (fun k => by rw [impl_ValidLoans.l0]) ?_
    refine EvS.pos h.lt (EvS.pos h.nonneg (EvS.pos h.lt ?_))
    rw [at_rdL h]
    have no : ¬ VL m y → false = decide (∀ e ∈ y :: ys, VL m e) := fun g => (decide_eq_false (fun q => g (q y List.mem_cons_self))).symm
    have jt : ¬ VL m y → EvS (fun k => impl_ValidLoans.j2 k m xs xs.length i true y.f0 y.f1 y.f2) (· = decide (∀ e ∈ y :: ys, VL m e)) := by
      intro g
      refine EvS.step (fun k => by rw [impl_ValidLoans.j2]) ?_
      exact EvS.pos rfl (EvS.now (no g))
    refine EvS.ite (fun c => jt (fun g => by have := g.1; omega)) (fun c1 => EvS.ite (fun c => jt (fun g => by have := g.1; omega)) (fun c2 => EvS.ite (fun c => jt (fun g => by have := g.2.1; omega)) (fun c3 => ?_)))
    by_cases c4 : y.f1 > 100000
    · rw [decide_eq_true c4]; exact jt (fun g => by have := g.2.1; omega)
    · rw [decide_eq_false c4]
      refine EvS.step (fun k => by rw [impl_ValidLoans.j2]) ?_
      refine EvS.neg (by simp) (EvS.ite (fun c => EvS.now (no (fun g => by have := g.2.2.1; omega))) (fun c5 => EvS.bindv (differentBelow_ok y.f2 (by omega) m (by omega) (by omega)) (EvS.ite (fun c6 => EvS.bindv (contains_ok y.f2 (by omega) y.f0) (EvS.ite (fun c7 => EvS.now (no (fun g => g.2.2.2.2 (of_decide_eq_true c7)))) (fun c7 => ?_))) (fun c6 => EvS.now (no (fun g => ndec c6 g.2.2.2.1))))))
      refine EvS.mono (ih _ (h.wnext (by omega))) (fun r hr => ?_)
      rw [hr]
      exact decide_eq_decide.2 (all_cons (P := VL m) (y := y) (⟨by omega, by omega, by omega, of_decide_eq_true c6, ndec c7⟩ : VL m y)).symm
theorem impl_ValidLoans_ok (xs : List S30) (hl : Sh xs) (m : Int) : EvS (fun k => impl_ValidLoans.f k xs m) (· = decide (VLs xs m)) := by
  have jt : ¬ VLs xs m → EvS (fun k => impl_ValidLoans.j0 k xs m true) (· = decide (VLs xs m)) := by
    intro g
    refine EvS.step (fun k => by rw [impl_ValidLoans.j0]) ?_
    exact EvS.pos rfl (EvS.now (decide_eq_false g).symm)
  simp only [impl_ValidLoans.f]
  refine EvS.ite (fun c => jt (fun g => by have := g.2.1; omega)) (fun c1 => EvS.ite (fun c => jt (fun g => by have := g.1; omega)) (fun c2 => ?_))
  by_cases c3 : m > 12
  · rw [decide_eq_true c3]; exact jt (fun g => by have := g.1; omega)
  · rw [decide_eq_false c3]
    refine EvS.step (fun k => by rw [impl_ValidLoans.j0]) ?_
    refine EvS.neg (by simp) (EvS.mono (impl_ValidLoans_l0 xs hl m (by omega) xs 0 (At.zero _)) (fun r hr => ?_))
    rw [hr]
    exact decide_eq_decide.2 ⟨fun g => ⟨by omega, by omega, g⟩, fun g => g.2.2⟩
theorem spec_validLoans_l0 (xs : List S30) (hl : Sh xs) (m : Int) (hm : 0 ≤ m ∧ m ≤ 1000) (ys : List S30) : ∀ i : Int, At xs i ys → EvS (fun k => spec_validLoans.l0 k xs m i) (· = decide ((1 ≤ m ∧ m ≤ 12) ∧ xs.length ≤ 16 ∧ ∀ e ∈ ys, VL m e)) := by
  have hxl := hl.1
  induction ys with
  | nil =>
    intro i h
    refine EvS.step (fun k => by rw [spec_validLoans.l0]) ?_
    refine EvS.neg (by have := h.ge; omega) (EvS.ite (fun c => EvS.call (inRange_eq _ _ _) (EvS.now ?_)) (fun c => EvS.now ?_))
    · exact decide_eq_decide.2 ⟨fun g => ⟨g, by omega, by simp⟩, fun g => g.1⟩
    · exact (decide_eq_false (fun g => by have := g.2.1; omega)).symm
  | cons y ys ih =>
    intro i h
    have hy := hl.2 y h.mem
    refine EvS.step (fun k => by rw [spec_validLoans.l0]) ?_
    refine EvS.pos h.lt (EvS.pos h.nonneg ?_)
    rw [at_rdL h, w64 (x := m - 1) (by omega) (by omega)]
    have no : ¬ VL m y → false = decide ((1 ≤ m ∧ m ≤ 12) ∧ xs.length ≤ 16 ∧ ∀ e ∈ y :: ys, VL m e) := fun g => (decide_eq_false (fun q => g (q.2.2 y List.mem_cons_self))).symm
    refine EvS.call (inRange_eq _ _ _) (EvS.ite (fun c1 => EvS.call (inRange_eq _ _ _) (EvS.ite (fun c2 => EvS.ite (fun c => EvS.now (no (fun g => by have := g.2.2.1; omega))) (fun c3 => EvS.bindv (validMembers_ok y.f2 (by omega) m (by omega) (by omega)) (EvS.ite (fun c4 => EvS.bindv (placeIn_ok y.f2 (by omega) y.f0) (EvS.ite (fun c5 => EvS.now (no (fun g => g.2.2.2.2 ((posF_nonneg _ _ _ (by omega)).1 c5)))) (fun c5 => ?_))) (fun c4 => EvS.now (no (fun g => ndec c4 g.2.2.2.1)))))) (fun c2 => EvS.now (no (fun g => ndec c2 g.2.1))))) (fun c1 => EvS.now (no (fun g => ndec c1 (by have := g.1; omega)))))
    have c1 := of_decide_eq_true c1
    refine EvS.mono (ih _ (h.wnext (by omega))) (fun r hr => ?_)
    rw [hr]
    exact decide_eq_decide.2 (and_congr_right fun _ => and_congr_right fun _ => (all_cons (P := VL m) (y := y) (⟨by omega, of_decide_eq_true c2, by omega, of_decide_eq_true c4, fun g => c5 ((posF_nonneg _ _ _ (by omega)).2 g)⟩ : VL m y)).symm)
theorem spec_validLoans_ok (xs : List S30) (hl : Sh xs) (m : Int) (hm : 0 ≤ m ∧ m ≤ 1000) : EvS (fun k => spec_validLoans.f k xs m) (· = decide (VLs xs m)) := by
  simp only [spec_validLoans.f]
  exact spec_validLoans_l0 xs hl m hm xs 0 (At.zero _)
/-! ## Loans among any number of members. -/
theorem validMembers_any_l0 (xs : List Int) (hl : xs.length ≤ 2000000) (n : Int) (ys : List Int) : ∀ i : Int, At xs i ys → EvS (fun k => spec_validMembers.l0 k xs n i) (fun _ => True) := by
  induction ys with
  | nil =>
    intro i h
    refine EvS.step (fun k => by rw [spec_validMembers.l0]) ?_
    exact EvS.neg (by have := h.ge; omega) (EvS.now trivial)
  | cons y ys ih =>
    intro i h
    have h1 := h.lt
    refine EvS.step (fun k => by rw [spec_validMembers.l0]) ?_
    refine EvS.pos h.lt (EvS.pos h.nonneg (EvS.call (inRange_eq _ _ _) (EvS.ite (fun c => EvS.pos (by omega) ?_) (fun c => EvS.now trivial))))
    exact EvS.bindv (placeIn_ok _ (by rw [List.length_take]; omega) _) (EvS.ite (fun _ => EvS.now trivial) (fun _ => ih _ (h.wnext (by omega))))
theorem validMembers_any (xs : List Int) (hl : xs.length ≤ 2000000) (n : Int) : EvS (fun k => spec_validMembers.f k xs n) (fun _ => True) := by
  simp only [spec_validMembers.f]
  exact validMembers_any_l0 xs hl n xs 0 (At.zero _)
theorem spec_validLoans_bad (xs : List S30) (hl : Sh xs) (m : Int) (hm : ¬ (1 ≤ m ∧ m ≤ 12)) (ys : List S30) : ∀ i : Int, At xs i ys → EvS (fun k => spec_validLoans.l0 k xs m i) (· = false) := by
  have hxl := hl.1
  induction ys with
  | nil =>
    intro i h
    refine EvS.step (fun k => by rw [spec_validLoans.l0]) ?_
    exact EvS.neg (by have := h.ge; omega) (EvS.ite (fun c => EvS.call (inRange_eq _ _ _) (EvS.now (decide_eq_false hm))) (fun c => EvS.now rfl))
  | cons y ys ih =>
    intro i h
    have hy := hl.2 y h.mem
    refine EvS.step (fun k => by rw [spec_validLoans.l0]) ?_
    refine EvS.pos h.lt (EvS.pos h.nonneg ?_)
    rw [at_rdL h]
    refine EvS.call (inRange_eq _ _ _) (EvS.ite (fun _ => EvS.call (inRange_eq _ _ _) (EvS.ite (fun _ => EvS.ite (fun _ => EvS.now rfl) (fun _ => EvS.bind (validMembers_any y.f2 hy m) (fun b _ => EvS.ite (fun _ => EvS.bindv (placeIn_ok y.f2 (by omega) y.f0) (EvS.ite (fun _ => EvS.now rfl) (fun _ => ?_))) (fun _ => EvS.now rfl)))) (fun _ => EvS.now rfl))) (fun _ => EvS.now rfl))
    exact ih _ (h.wnext (by omega))
theorem spec_validLoans_all (xs : List S30) (hl : Sh xs) (m : Int) : EvS (fun k => spec_validLoans.f k xs m) (· = decide (VLs xs m)) := by
  by_cases c : 1 ≤ m ∧ m ≤ 12
  · exact spec_validLoans_ok xs hl m (by omega)
  · simp only [spec_validLoans.f]
    rw [decide_eq_false (fun g : VLs xs m => c g.1)]
    exact spec_validLoans_bad xs hl m c xs 0 (At.zero _)
/-! ## Levels: the least numbers by which each lender stands above whom he lends to. -/
def Edge (xs : List S30) (u v : Int) : Prop := ∃ e ∈ xs, e.f0 = u ∧ v ∈ e.f2
instance (xs : List S30) (u v : Int) : Decidable (Edge xs u v) := by unfold Edge; infer_instance
def Sol (xs : List S30) (m : Int) (g : Int → Int) : Prop := (∀ j, 0 ≤ j → j < m → 0 ≤ g j) ∧ ∀ u v, Edge xs u v → g v + 1 ≤ g u
theorem edge_range {xs : List S30} {m : Int} (hv : VLs xs m) {u v : Int} (h : Edge xs u v) : (0 ≤ u ∧ u < m) ∧ (0 ≤ v ∧ v < m) ∧ u ≠ v := by
  obtain ⟨e, he, rfl, hz⟩ := h
  have a := hv.2.2 e he
  exact ⟨a.1, a.2.2.2.1.2 v hz, fun g => a.2.2.2.2 (g ▸ hz)⟩
theorem cnt_lt (l : List Nat) (p q : Nat → Bool) (h : ∀ x, p x = true → q x = true) (x : Nat) (hx : x ∈ l) (h1 : q x = true) (h2 : ¬ p x = true) : l.countP p + 1 ≤ l.countP q := by
  induction l with
  | nil => simp at hx
  | cons y l ih =>
    rcases List.mem_cons.1 hx with rfl | hx
    · have := List.countP_mono_left (l := l) (p := p) (q := q) (fun z _ hz => h z hz)
      rw [List.countP_cons_of_neg h2, List.countP_cons_of_pos h1]; omega
    · have := ih hx
      rw [List.countP_cons, List.countP_cons]
      by_cases c : p y = true
      · rw [if_pos c, if_pos (h y c)]; omega
      · rw [if_neg c]; split <;> omega
/-- Where there are such numbers, there are some below the number of members. -/
theorem sol_rank {xs : List S30} {m : Int} (hv : VLs xs m) {g : Int → Int} (h : Sol xs m g) : ∃ R, Sol xs m R ∧ ∀ j, 0 ≤ j → j < m → R j ≤ m - 1 := by
  refine ⟨fun j => (((List.range m.toNat).countP (fun w : Nat => decide (g (w : Int) < g j)) : Nat) : Int), ⟨fun j _ _ => by dsimp only; omega, fun u v e => ?_⟩, fun j h0 h1 => ?_⟩
  · obtain ⟨_, r2, _⟩ := edge_range hv e
    have := h.2 u v e
    have := cnt_lt (List.range m.toNat) (fun w : Nat => decide (g (w : Int) < g v)) (fun w : Nat => decide (g (w : Int) < g u)) (fun x hx => decide_eq_true (by have := of_decide_eq_true hx; omega)) v.toNat (List.mem_range.2 (by omega)) (decide_eq_true (by rw [Int.toNat_of_nonneg r2.1]; omega)) (by rw [Int.toNat_of_nonneg r2.1]; simp)
    dsimp only
    omega
  · have := cnt_lt (List.range m.toNat) (fun w : Nat => decide (g (w : Int) < g j)) (fun _ => true) (fun _ _ => rfl) j.toNat (List.mem_range.2 (by omega)) rfl (by rw [Int.toNat_of_nonneg h0]; simp)
    have c : (List.range m.toNat).countP (fun _ => true) = m.toNat := by rw [List.countP_true, List.length_range]
    dsimp only
    omega
/-- In round t the edges P are done. -/
structure Pass (xs : List S30) (m t : Int) (P : Int → Int → Prop) (s : List Int) (ch : Bool) (B : Int) : Prop where
  len : (s.length : Int) = m
  nn : ∀ j, 0 ≤ j → j < m → 0 ≤ rd s j
  hi : ∀ j, 0 ≤ j → j < m → rd s j ≤ B
  low : ∀ g, Sol xs m g → ∀ j, 0 ≤ j → j < m → rd s j ≤ g j
  todo : ∀ u v, Edge xs u v → rd s v + 1 ≤ rd s u ∨ t ≤ rd s v
  sub : ∀ u v, P u v → Edge xs u v
  done : ∀ u v, P u v → rd s v + 1 ≤ rd s u ∨ t + 1 ≤ rd s v
  yes : ch = true → ∃ j, 0 ≤ j ∧ j < m ∧ t + 1 ≤ rd s j
  no : ch = false → ∀ u v, P u v → rd s v + 1 ≤ rd s u
theorem Pass.more {xs : List S30} {m t : Int} {P : Int → Int → Prop} {s : List Int} {ch : Bool} {B B' : Int} (h : Pass xs m t P s ch B) (hB : B ≤ B') : Pass xs m t P s ch B' :=
  ⟨h.len, h.nn, fun j h0 h1 => by have := h.hi j h0 h1; omega, h.low, h.todo, h.sub, h.done, h.yes, h.no⟩
theorem Pass.upd {xs : List S30} {m t : Int} {P : Int → Int → Prop} {s : List Int} {ch : Bool} {B u v : Int} (hv : VLs xs m) (h : Pass xs m t P s ch B) (e : Edge xs u v) (hlt : rd s u < rd s v + 1) :
    Pass xs m t (fun a b => P a b ∨ (a = u ∧ b = v)) (s.set u.toNat (rd s v + 1)) true (B + 1) := by
  obtain ⟨ru, rv, ne⟩ := edge_range hv e
  have hl := h.len
  have hs : ∀ j, 0 ≤ j → rd (s.set u.toNat (rd s v + 1)) j = if u = j then rd s v + 1 else rd s j := fun j h0 => rd_set _ _ _ _ ru.1 (by omega) h0
  have ht : t ≤ rd s v := by rcases h.todo u v e with g | g; omega; exact g
  have key : ∀ a b, Edge xs a b → ∀ c : Int, c ≤ t + 1 → (rd s b + 1 ≤ rd s a ∨ c ≤ rd s b) → rd (s.set u.toNat (rd s v + 1)) b + 1 ≤ rd (s.set u.toNat (rd s v + 1)) a ∨ c ≤ rd (s.set u.toNat (rd s v + 1)) b := by
    intro a b ea c hc g
    obtain ⟨ra, rb, nab⟩ := edge_range hv ea
    rw [hs a ra.1, hs b rb.1]
    split <;> split <;> omega
  refine ⟨by simpa using hl, fun j h0 h1 => ?_, fun j h0 h1 => ?_, fun g hg j h0 h1 => ?_, fun a b ea => key a b ea t (by omega) (h.todo a b ea), fun a b g => ?_, fun a b g => ?_, fun _ => ⟨u, ru.1, ru.2, ?_⟩, fun g => by simp at g⟩
  · rw [hs j h0]; have := h.nn j h0 h1; have := h.nn v rv.1 rv.2; split <;> omega
  · rw [hs j h0]; have := h.hi j h0 h1; have := h.hi v rv.1 rv.2; split <;> omega
  · rw [hs j h0]; have := h.low g hg j h0 h1; have := h.low g hg v rv.1 rv.2; have := hg.2 u v e
    split
    · rename_i c; subst c; omega
    · omega
  · rcases g with g | ⟨rfl, rfl⟩
    · exact h.sub a b g
    · exact e
  · rcases g with g | ⟨rfl, rfl⟩
    · exact key a b (h.sub a b g) (t + 1) (by omega) (h.done a b g)
    · rw [hs a ru.1, hs b rv.1, if_pos rfl, if_neg ne]; omega
  · rw [hs u ru.1, if_pos rfl]; omega
theorem Pass.keep {xs : List S30} {m t : Int} {P : Int → Int → Prop} {s : List Int} {ch : Bool} {B u v : Int} (h : Pass xs m t P s ch B) (e : Edge xs u v) (hlt : ¬ rd s u < rd s v + 1) :
    Pass xs m t (fun a b => P a b ∨ (a = u ∧ b = v)) s ch (B + 1) := by
  refine ⟨h.len, h.nn, fun j h0 h1 => by have := h.hi j h0 h1; omega, h.low, h.todo, fun a b g => ?_, fun a b g => ?_, h.yes, fun c a b g => ?_⟩
  · rcases g with g | ⟨rfl, rfl⟩
    · exact h.sub a b g
    · exact e
  · rcases g with g | ⟨rfl, rfl⟩
    · exact h.done a b g
    · left; omega
  · rcases g with g | ⟨rfl, rfl⟩
    · exact h.no c a b g
    · omega
theorem Pass.next {xs : List S30} {m t : Int} {P : Int → Int → Prop} {s : List Int} {ch : Bool} {B : Int} (h : Pass xs m t P s ch B) (hP : ∀ u v, Edge xs u v → P u v) : Pass xs m (t + 1) (fun _ _ => False) s false B :=
  ⟨h.len, h.nn, h.hi, h.low, fun u v e => h.done u v (hP u v e), fun _ _ g => g.elim, fun _ _ g => g.elim, fun g => by simp at g, fun _ _ _ g => g.elim⟩
theorem Pass.start (xs : List S30) (m : Int) (hm : 0 ≤ m) : Pass xs m 0 (fun _ _ => False) (List.replicate m.toNat 0) false 0 :=
  ⟨by simp; omega, fun j _ _ => by rw [rd_zeros]; omega, fun j _ _ => by rw [rd_zeros]; omega, fun g hg j h0 h1 => by rw [rd_zeros]; exact hg.1 j h0 h1, fun u v _ => by rw [rd_zeros]; right; omega, fun _ _ g => g.elim, fun _ _ g => g.elim, fun g => by simp at g, fun _ _ _ g => g.elim⟩
/-- What levels are told. -/
def IsLev (xs : List S30) (m : Int) (r : List Int) : Prop :=
  ((r.length : Int) = m ∧ Sol xs m (rd r) ∧ ∀ g, Sol xs m g → ∀ j, 0 ≤ j → j < m → rd r j ≤ g j) ∨ (r = [] ∧ ∀ g, ¬ Sol xs m g)
theorem IsLev.eq {xs : List S30} {m : Int} {r q : List Int} (h : IsLev xs m r) (g : IsLev xs m q) : r = q := by
  rcases h with ⟨h1, h2, h3⟩ | ⟨h1, h2⟩
  · rcases g with ⟨g1, g2, g3⟩ | ⟨g1, g2⟩
    · exact list_ext (by omega) (fun i i0 i1 => by have a := h3 _ g2 i i0 (by omega); have b := g3 _ h2 i i0 (by omega); omega)
    · exact absurd h2 (g2 _)
  · rcases g with ⟨g1, g2, g3⟩ | ⟨g1, g2⟩
    · exact absurd g2 (h2 _)
    · rw [h1, g1]
theorem Pass.fixed {xs : List S30} {m t : Int} {P : Int → Int → Prop} {s : List Int} {B : Int} (h : Pass xs m t P s false B) (hP : ∀ u v, Edge xs u v → P u v) : IsLev xs m s :=
  .inl ⟨h.len, ⟨h.nn, fun u v e => h.no rfl u v (hP u v e)⟩, h.low⟩
theorem Pass.none {xs : List S30} {m t : Int} {P : Int → Int → Prop} {s : List Int} {ch : Bool} {B : Int} (hv : VLs xs m) (h : Pass xs m t P s ch B) (hj : ∃ j, 0 ≤ j ∧ j < m ∧ m ≤ rd s j) : IsLev xs m [] := by
  refine .inr ⟨rfl, fun g hg => ?_⟩
  obtain ⟨R, h1, h2⟩ := sol_rank hv hg
  obtain ⟨j, j0, j1, j2⟩ := hj
  have := h.low R h1 j j0 j1
  have := h2 j j0 j1
  omega
theorem impl_lev_l2 (xs : List S30) (m t : Int) (hv : VLs xs m) (ht : 0 ≤ t ∧ t ≤ 20) (y : S30) (ys : List S30) (i : Int) (h : At xs i (y :: ys)) (Q : List Int → Prop)
    (K : ∀ P s ch, Pass xs m t P s ch (1000 * t + 20 * (i + 1)) → (∀ a b, Edge xs a b → P a b ∨ Edge ys a b) → EvS (fun k => impl_LevelsOf.l1 k xs s ch m t xs xs.length (wrap64 (i + 1))) Q) (zs : List Int) :
    ∀ (q : Int) (s : List Int) (ch : Bool) (P : Int → Int → Prop), At y.f2 q zs → Pass xs m t P s ch (1000 * t + 20 * i + q) → (∀ a b, Edge xs a b → P a b ∨ (y.f0 = a ∧ b ∈ zs) ∨ Edge ys a b) →
    EvS (fun k => impl_LevelsOf.l2 k xs s ch m t xs xs.length i y.f2 y.f2.length q y.f0 y.f1 y.f2) Q := by
  have hy := hv.2.2 y h.mem
  have hi := h.lt
  have hi0 := h.nonneg
  have hxl := hv.2.1
  have hy12 : (y.f2.length : Int) ≤ 12 := by
    have hy3 := hy.2.2.1
    rcases diff_len hy.2.2.2.1 with g | g
    · have := hv.1.2; omega
    · rw [g] at hy3; simp at hy3
  induction zs with
  | nil =>
    intro q s ch P hq hp hc
    have := hq.ge
    refine EvS.step (fun k => by rw [impl_LevelsOf.l2]) ?_
    exact EvS.neg (by omega) (K P s ch (hp.more (by omega)) (fun a b e => by rcases hc a b e with g | ⟨_, g⟩ | g; exact .inl g; simp at g; exact .inr g))
  | cons z zs ih =>
    intro q s ch P hq hp hc
    have q0 := hq.nonneg
    have q1 := hq.lt
    have hz := hy.2.2.2.1.2 z hq.mem
    have ed : Edge xs y.f0 z := ⟨y, h.mem, rfl, hq.mem⟩
    have hl := hp.len
    have b0 := hp.nn z hz.1 hz.2
    have b1 := hp.hi z hz.1 hz.2
    refine EvS.step (fun k => by rw [impl_LevelsOf.l2]) ?_
    refine EvS.pos q1 (EvS.pos q0 (EvS.pos q1 (EvS.pos hy.1.1 (EvS.pos (by have := hy.1.2; omega) ?_))))
    rw [At.rd hq]
    refine EvS.pos hz.1 (EvS.pos (by omega) ?_)
    rw [w64 (x := rd s z + 1) (by omega) (by omega), w64 (x := q + 1) (by omega) (by omega)]
    have hc' : ∀ a b, Edge xs a b → (P a b ∨ (a = y.f0 ∧ b = z)) ∨ (y.f0 = a ∧ b ∈ zs) ∨ Edge ys a b := by
      intro a b e
      rcases hc a b e with g | ⟨g1, g2⟩ | g
      · exact .inl (.inl g)
      · rcases List.mem_cons.1 g2 with g2 | g2
        · exact .inl (.inr ⟨g1.symm, g2⟩)
        · exact .inr (.inl ⟨g1, g2⟩)
      · exact .inr (.inr g)
    refine EvS.ite (fun c => ih _ _ _ _ hq.next ((hp.upd hv ed c).more (by omega)) hc') (fun c => ih _ _ _ _ hq.next ((hp.keep ed c).more (by omega)) hc')
theorem impl_lev_l1 (xs : List S30) (m t : Int) (hv : VLs xs m) (ht : 0 ≤ t ∧ t ≤ 20)
    (K : ∀ s, Pass xs m (t + 1) (fun _ _ => False) s false (1000 * (t + 1)) → (∃ j, 0 ≤ j ∧ j < m ∧ t + 1 ≤ rd s j) → EvS (fun k => impl_LevelsOf.l0 k xs s m (wrap64 (t + 1))) (IsLev xs m)) (ys : List S30) :
    ∀ (i : Int) (s : List Int) (ch : Bool) (P : Int → Int → Prop), At xs i ys → Pass xs m t P s ch (1000 * t + 20 * i) → (∀ a b, Edge xs a b → P a b ∨ Edge ys a b) →
    EvS (fun k => impl_LevelsOf.l1 k xs s ch m t xs xs.length i) (IsLev xs m) := by
  have hxl := hv.2.1
  induction ys with
  | nil =>
    intro i s ch P h hp hc
    have := h.ge
    have hP : ∀ a b, Edge xs a b → P a b := fun a b e => by
      rcases hc a b e with g | ⟨e', he', _⟩
      · exact g
      · simp at he'
    refine EvS.step (fun k => by rw [impl_LevelsOf.l1]) ?_
    refine EvS.neg (by omega) ?_
    cases ch with
    | true => exact EvS.pos rfl (K s ((hp.next hP).more (by omega)) (hp.yes rfl))
    | false => exact EvS.neg (by simp) (EvS.now (hp.fixed hP))
  | cons y ys ih =>
    intro i s ch P h hp hc
    refine EvS.step (fun k => by rw [impl_LevelsOf.l1]) ?_
    refine EvS.pos h.lt (EvS.pos h.nonneg (EvS.pos h.lt ?_))
    rw [at_rdL h]
    refine impl_lev_l2 xs m t hv ht y ys i h _ (fun P s ch hp hc => ?_) y.f2 0 s ch P (At.zero _) (hp.more (by omega)) (fun a b e => ?_)
    · have hw := w64 (x := i + 1) (by have := h.nonneg; omega) (by have := h.lt; omega)
      rw [hw]
      exact ih _ s ch P h.next hp hc
    · rcases hc a b e with g | ⟨e', he', g1, g2⟩
      · exact .inl g
      · rcases List.mem_cons.1 he' with rfl | he'
        · exact .inr (.inl ⟨g1, g2⟩)
        · exact .inr (.inr ⟨e', he', g1, g2⟩)
theorem impl_lev_l0 (xs : List S30) (m : Int) (hv : VLs xs m) (d : Nat) : ∀ (t : Int) (s : List Int), t + d = m → 0 ≤ t → Pass xs m t (fun _ _ => False) s false (1000 * t) → (t = 0 ∨ ∃ j, 0 ≤ j ∧ j < m ∧ t ≤ rd s j) →
    EvS (fun k => impl_LevelsOf.l0 k xs s m t) (IsLev xs m) := by
  have hm := hv.1
  induction d with
  | zero =>
    intro t s e h0 hp hj
    refine EvS.step (fun k => by rw [impl_LevelsOf.l0]) ?_
    refine EvS.neg (by omega) (EvS.now (hp.none hv ?_))
    rcases hj with g | ⟨j, j0, j1, j2⟩
    · omega
    · exact ⟨j, j0, j1, by omega⟩
  | succ d ih =>
    intro t s e h0 hp hj
    refine EvS.step (fun k => by rw [impl_LevelsOf.l0]) ?_
    refine EvS.pos (by omega) (impl_lev_l1 xs m t hv (by omega) (fun s hp hj => ?_) xs 0 s false _ (At.zero _) (hp.more (by omega)) (fun a b e => .inr e))
    rw [w64 (x := t + 1) (by omega) (by omega)]
    exact ih _ s (by omega) (by omega) hp (.inr hj)
theorem impl_LevelsOf_ok (xs : List S30) (hl : Sh xs) (m : Int) : EvS (fun k => impl_LevelsOf.f k xs m) (fun r => if VLs xs m then IsLev xs m r else r = []) := by
  simp only [impl_LevelsOf.f]
  refine EvS.bindv (impl_ValidLoans_ok xs hl m) ?_
  by_cases hv : VLs xs m
  · simp only [if_pos hv]
    have hm := hv.1
    exact EvS.pos (decide_eq_true hv) (EvS.pos (by omega) (EvS.pos (by omega) (impl_lev_l0 xs m hv m.toNat 0 _ (by omega) (by omega) (Pass.start xs m (by omega)) (.inl rfl))))
  · simp only [if_neg hv]
    exact EvS.neg (by simp [hv]) (EvS.now rfl)
theorem answers_l0 (xs : List S30) (hl : Sh xs) (u v : Int) (ys : List S30) : ∀ i : Int, At xs i ys → EvS (fun k => spec_answers.l0 k xs v u i) (· = decide (Edge ys u v)) := by
  have hxl := hl.1
  induction ys with
  | nil =>
    intro i h
    refine EvS.step (fun k => by rw [spec_answers.l0]) ?_
    exact EvS.neg (by have := h.ge; omega) (EvS.now (by simp [Edge]))
  | cons y ys ih =>
    intro i h
    have hy := hl.2 y h.mem
    refine EvS.step (fun k => by rw [spec_answers.l0]) ?_
    refine EvS.pos h.lt (EvS.pos h.nonneg ?_)
    rw [at_rdL h]
    have go : ¬ (y.f0 = u ∧ v ∈ y.f2) → EvS (fun k => spec_answers.l0 k xs v u (wrap64 (i + 1))) (· = decide (Edge (y :: ys) u v)) := by
      intro g
      refine EvS.mono (ih _ (h.wnext (by omega))) (fun r hr => ?_)
      rw [hr]
      refine decide_eq_decide.2 ⟨fun ⟨e, he, q⟩ => ⟨e, List.mem_cons_of_mem _ he, q⟩, fun ⟨e, he, q⟩ => ?_⟩
      rcases List.mem_cons.1 he with rfl | he
      · exact absurd q g
      · exact ⟨e, he, q⟩
    refine EvS.ite (fun c => EvS.bindv (placeIn_ok y.f2 (by omega) v) (EvS.ite (fun c2 => EvS.now ?_) (fun c2 => go (fun g => c2 ((posF_nonneg _ _ _ (by omega)).2 g.2))))) (fun c => go (fun g => c g.1))
    exact (decide_eq_true (⟨y, List.mem_cons_self, c, (posF_nonneg _ _ _ (by omega)).1 c2⟩ : Edge (y :: ys) u v)).symm
theorem answers_ok (xs : List S30) (hl : Sh xs) (u v : Int) : EvS (fun k => spec_answers.f k xs v u) (· = decide (Edge xs u v)) := by
  simp only [spec_answers.f]
  exact answers_l0 xs hl u v xs 0 (At.zero _)
theorem spec_lev_l2 (xs : List S30) (hl : Sh xs) (m t u : Int) (hv : VLs xs m) (ht : 0 ≤ t ∧ t ≤ 20) (hu : 0 ≤ u ∧ u < m) (Q : List Int → Prop)
    (K : ∀ P s ch, Pass xs m t P s ch (1000 * t + 20 * (u + 1)) → (∀ a b, Edge xs a b → a < u + 1 → P a b) → EvS (fun k => spec_levels.l1 k xs m s t ch (wrap64 (u + 1))) Q) (d : Nat) :
    ∀ (v : Int) (s : List Int) (ch : Bool) (P : Int → Int → Prop), v + d = m → 0 ≤ v → Pass xs m t P s ch (1000 * t + 20 * u + v) → (∀ a b, Edge xs a b → a < u ∨ (a = u ∧ b < v) → P a b) →
    EvS (fun k => spec_levels.l2 k xs m s t ch u v) Q := by
  have hm := hv.1
  induction d with
  | zero =>
    intro v s ch P e h0 hp hc
    refine EvS.step (fun k => by rw [spec_levels.l2]) ?_
    exact EvS.neg (by omega) (K P s ch (hp.more (by omega)) (fun a b ed g => hc a b ed (by have := (edge_range hv ed).2.1; omega)))
  | succ d ih =>
    intro v s ch P e h0 hp hc
    have hl' := hp.len
    have b0 := hp.nn v h0 (by omega)
    have b1 := hp.hi v h0 (by omega)
    refine EvS.step (fun k => by rw [spec_levels.l2]) ?_
    refine EvS.pos (by omega) (EvS.bindv (answers_ok xs hl u v) ?_)
    rw [w64 (x := v + 1) (by omega) (by omega), w64 (x := rd s v + 1) (by omega) (by omega)]
    refine EvS.ite (fun c => ?_) (fun c => ?_)
    · have ed := of_decide_eq_true c
      have hc' : ∀ a b, Edge xs a b → a < u ∨ (a = u ∧ b < v + 1) → (P a b ∨ (a = u ∧ b = v)) := by
        intro a b e g
        by_cases q : a = u ∧ b = v
        · exact .inr q
        · exact .inl (hc a b e (by omega))
      refine EvS.pos hu.1 (EvS.pos (by omega) (EvS.pos h0 (EvS.pos (by omega) (EvS.ite (fun c => ih _ _ _ _ (by omega) (by omega) ((hp.upd hv ed c).more (by omega)) hc') (fun c => ih _ _ _ _ (by omega) (by omega) ((hp.keep ed c).more (by omega)) hc')))))
    · have ned := ndec c
      refine ih _ _ _ _ (by omega) (by omega) (hp.more (by omega)) (fun a b e g => hc a b e ?_)
      by_cases q : a = u ∧ b = v
      · exact absurd (q.1 ▸ q.2 ▸ e) ned
      · omega
theorem spec_lev_l1 (xs : List S30) (hl : Sh xs) (m t : Int) (hv : VLs xs m) (ht : 0 ≤ t ∧ t ≤ 20)
    (K : ∀ s, Pass xs m (t + 1) (fun _ _ => False) s false (1000 * (t + 1)) → (∃ j, 0 ≤ j ∧ j < m ∧ t + 1 ≤ rd s j) → EvS (fun k => spec_levels.l0 k xs m s (wrap64 (t + 1))) (IsLev xs m)) (d : Nat) :
    ∀ (u : Int) (s : List Int) (ch : Bool) (P : Int → Int → Prop), u + d = m → 0 ≤ u → Pass xs m t P s ch (1000 * t + 20 * u) → (∀ a b, Edge xs a b → a < u → P a b) →
    EvS (fun k => spec_levels.l1 k xs m s t ch u) (IsLev xs m) := by
  have hm := hv.1
  induction d with
  | zero =>
    intro u s ch P e h0 hp hc
    have hP : ∀ a b, Edge xs a b → P a b := fun a b ed => hc a b ed (by have := (edge_range hv ed).1; omega)
    refine EvS.step (fun k => by rw [spec_levels.l1]) ?_
    refine EvS.neg (by omega) ?_
    cases ch with
    | true => exact EvS.pos rfl (K s ((hp.next hP).more (by omega)) (hp.yes rfl))
    | false => exact EvS.neg (by simp) (EvS.now (hp.fixed hP))
  | succ d ih =>
    intro u s ch P e h0 hp hc
    refine EvS.step (fun k => by rw [spec_levels.l1]) ?_
    refine EvS.pos (by omega) (spec_lev_l2 xs hl m t u hv ht (by omega) _ (fun P s ch hp hc => ?_) m.toNat 0 s ch P (by omega) (by omega) (hp.more (by omega)) (fun a b ed g => hc a b ed (by have := (edge_range hv ed).2.1; omega)))
    rw [w64 (x := u + 1) (by omega) (by omega)]
    exact ih _ s ch P (by omega) (by omega) hp hc
theorem spec_lev_l0 (xs : List S30) (hl : Sh xs) (m : Int) (hv : VLs xs m) (d : Nat) : ∀ (t : Int) (s : List Int), t + d = m + 1 → 0 ≤ t → Pass xs m t (fun _ _ => False) s false (1000 * t) → (t = 0 ∨ ∃ j, 0 ≤ j ∧ j < m ∧ t ≤ rd s j) →
    EvS (fun k => spec_levels.l0 k xs m s t) (IsLev xs m) := by
  have hm := hv.1
  induction d with
  | zero =>
    intro t s e h0 hp hj
    refine EvS.step (fun k => by rw [spec_levels.l0]) ?_
    refine EvS.neg (by omega) (EvS.now (hp.none hv ?_))
    rcases hj with g | ⟨j, j0, j1, j2⟩
    · omega
    · exact ⟨j, j0, j1, by omega⟩
  | succ d ih =>
    intro t s e h0 hp hj
    refine EvS.step (fun k => by rw [spec_levels.l0]) ?_
    refine EvS.pos (by omega) (spec_lev_l1 xs hl m t hv (by omega) (fun s hp hj => ?_) m.toNat 0 s false _ (by omega) (by omega) (hp.more (by omega)) (fun a b ed g => by have := (edge_range hv ed).1; omega))
    rw [w64 (x := t + 1) (by omega) (by omega)]
    exact ih _ s (by omega) (by omega) hp (.inr hj)
theorem spec_levels_ok (xs : List S30) (hl : Sh xs) (m : Int) (hv : VLs xs m) : EvS (fun k => spec_levels.f k xs m) (IsLev xs m) := by
  simp only [spec_levels.f]
  have hm := hv.1
  exact EvS.pos (by omega) (EvS.pos (by omega) (spec_lev_l0 xs hl m hv (m + 1).toNat 0 _ (by omega) (by omega) (Pass.start xs m (by omega)) (.inl rfl)))
def Ring (xs : List S30) (m : Int) : Prop := VLs xs m ∧ ∀ g, ¬ Sol xs m g
theorem lev_len {xs : List S30} {m : Int} (hm : 1 ≤ m) {r : List Int} (h : IsLev xs m r) : ((r.length : Int) == 0) = true ↔ ∀ g, ¬ Sol xs m g := by
  rcases h with ⟨h1, h2, _⟩ | ⟨h1, h2⟩
  · constructor
    · intro g; rw [beq_dec] at g; have := of_decide_eq_true g; omega
    · intro g; exact absurd h2 (g _)
  · rw [h1]; exact ⟨fun _ => h2, fun _ => rfl⟩
theorem impl_HasRing_ok (xs : List S30) (hl : Sh xs) (m : Int) : EvS (fun k => impl_HasRing.f k xs m) (fun r => r = true ↔ Ring xs m) := by
  simp only [impl_HasRing.f]
  refine EvS.bindv (impl_ValidLoans_ok xs hl m) ?_
  by_cases hv : VLs xs m
  · refine EvS.pos (decide_eq_true hv) (EvS.bind (impl_LevelsOf_ok xs hl m) (fun r hr => EvS.now ?_))
    simp only [if_pos hv] at hr
    rw [lev_len hv.1.1 hr]
    exact ⟨fun g => ⟨hv, g⟩, fun g => g.2⟩
  · exact EvS.neg (by simp [hv]) (EvS.now ⟨fun g => by simp at g, fun g => absurd g.1 hv⟩)
theorem spec_HasRing_ok (xs : List S30) (hl : Sh xs) (m : Int) : EvS (fun k => spec_HasRing.f k xs m) (fun r => r = true ↔ Ring xs m) := by
  simp only [spec_HasRing.f]
  refine EvS.bindv (spec_validLoans_all xs hl m) ?_
  by_cases hv : VLs xs m
  · refine EvS.pos (decide_eq_true hv) (EvS.bind (spec_levels_ok xs hl m hv) (fun r hr => EvS.now ?_))
    rw [lev_len hv.1.1 hr]
    exact ⟨fun g => ⟨hv, g⟩, fun g => g.2⟩
  · exact EvS.neg (by simp [hv]) (EvS.now ⟨fun g => by simp at g, fun g => absurd g.1 hv⟩)
/-! ## What an exact law asks of lists of numbers. -/
theorem toIntS_l0 (xs : List Int) (hl : xs.length ≤ 4000000) (ys : List Int) : ∀ (i : Int) (s : List Int), At xs i ys → s.length = xs.length → (∀ j : Int, 0 ≤ j → j < i → rd s j = rd xs j) → EvS (fun k => laws_toIntS.l0 k xs s i) (· = xs) := by
  induction ys with
  | nil =>
    intro i s h h1 h2
    have := h.ge
    refine EvS.step (fun k => by rw [laws_toIntS.l0]) ?_
    exact EvS.neg (by omega) (EvS.now (list_ext h1 (fun j j0 j1 => h2 j j0 (by omega))))
  | cons y ys ih =>
    intro i s h h1 h2
    have g1 := h.lt
    have g2 := h.nonneg
    refine EvS.step (fun k => by rw [laws_toIntS.l0]) ?_
    refine EvS.pos h.lt (EvS.pos h.nonneg (EvS.pos (by omega) ?_))
    refine ih _ _ (h.wnext (by omega)) (by simpa using h1) (fun j j0 j1 => ?_)
    rw [w64 (by omega) (by omega)] at j1
    rw [rd_set _ _ _ _ g2 (by omega) j0]
    by_cases e : i = j
    · rw [if_pos e, e]
    · rw [if_neg e]; exact h2 j j0 (by omega)
theorem toIntS_ok (xs : List Int) (hl : xs.length ≤ 4000000) : EvS (fun k => laws_toIntS.f k xs) (· = xs) := by
  simp only [laws_toIntS.f]
  exact EvS.pos (by omega) (EvS.pos (by omega) (toIntS_l0 xs hl xs 0 _ (At.zero _) (by simp) (fun j j0 j1 => by omega)))
theorem eqIntS_l0 (xs : List Int) (hl : xs.length ≤ 4000000) (ys : List Int) : ∀ i : Int, At xs i ys → EvS (fun k => laws_eqIntS.l0 k xs xs i) (· = true) := by
  induction ys with
  | nil =>
    intro i h
    refine EvS.step (fun k => by rw [laws_eqIntS.l0]) ?_
    exact EvS.neg (by have := h.ge; omega) (EvS.now rfl)
  | cons y ys ih =>
    intro i h
    refine EvS.step (fun k => by rw [laws_eqIntS.l0]) ?_
    exact EvS.pos h.lt (EvS.pos h.nonneg (EvS.pos h.lt (EvS.pos (by simp) (ih _ (h.wnext (by omega))))))
theorem eqIntS_ok (xs : List Int) (hl : xs.length ≤ 4000000) : EvS (fun k => laws_eqIntS.f k xs xs) (· = true) := by
  simp only [laws_eqIntS.f]
  exact EvS.pos (by trivial) (eqIntS_l0 xs hl xs 0 (At.zero xs))
structure Marked (k : Int) (n : Nat) (m : List Int) : Prop where
  len : m.length = n
  val : ∀ j : Int, 0 ≤ j → j < n → rd m j = k + j
/-! ## What an exact law asks of lists of loans. -/
def cvLoan (x : S49) : S30 := ⟨x.f0, x.f1, x.f2⟩
theorem at_rdLaw {xs ys : List S49} {i : Int} {y : S49} (h : At xs i (y :: ys)) : rd_T49 xs i = y := h.getD _
theorem rdLoan_set (xs : List S30) (i j : Int) (v : S30) (h0 : 0 ≤ i) (h1 : i < xs.length) (h2 : 0 ≤ j) : rd_T30 (xs.set i.toNat v) j = if i = j then v else rd_T30 xs j := by
  unfold rd_T30
  rw [List.getD_eq_getElem?_getD, List.getElem?_set]
  by_cases c : i = j
  · subst c; rw [if_pos rfl, if_pos (by omega), if_pos rfl]; rfl
  · rw [if_neg (by omega), if_neg c, List.getD_eq_getElem?_getD]
theorem listLoan_ext {xs ys : List S30} (hl : xs.length = ys.length) (h : ∀ i : Int, 0 ≤ i → i < xs.length → rd_T30 xs i = rd_T30 ys i) : xs = ys := by
  apply List.ext_getElem hl
  intro n h1 h2
  have := h n (by omega) (by omega)
  unfold rd_T30 at this
  simp only [Int.toNat_natCast] at this
  rw [List.getD_eq_getElem?_getD, List.getD_eq_getElem?_getD, List.getElem?_eq_getElem h1, List.getElem?_eq_getElem h2] at this
  exact this
theorem rdLoan_map (xs : List S49) (i : Int) (h0 : 0 ≤ i) (h1 : i < xs.length) : rd_T30 (xs.map cvLoan) i = cvLoan (rd_T49 xs i) := by
  unfold rd_T30 rd_T49
  rw [List.getD_eq_getElem?_getD, List.getD_eq_getElem?_getD, List.getElem?_map, List.getElem?_eq_getElem (show i.toNat < xs.length by omega)]
  rfl
def ShW1 (xs : List S49) : Prop := xs.length ≤ 1048576 ∧ ∀ x ∈ xs, x.f2.length ≤ 1048576
theorem szLoanS_l0 (xs : List S49) (hx : xs.length ≤ 1048576) (hr : ∀ r ∈ xs, r.f2.length ≤ 9223372036854775807) (ys : List S49) : ∀ (i c : Int), At xs i ys → 0 ≤ c → c ≤ 1048576 → EvS (fun k => laws_szLoanS.l0 k xs c i) (fun t => t < 0 ∨ ∀ r ∈ ys, r.f2.length ≤ 1048576) := by
  induction ys with
  | nil =>
    intro i c h h0 h1
    refine EvS.step (fun k => by rw [laws_szLoanS.l0]) ?_
    exact EvS.neg (by have := h.ge; omega) (EvS.now (.inr (by simp)))
  | cons y ys ih =>
    intro i c h h0 h1
    have hy := hr y h.mem
    refine EvS.step (fun k => by rw [laws_szLoanS.l0]) ?_
    refine EvS.pos h.lt (EvS.pos h.nonneg ?_)
    rw [at_rdLaw h]
    simp only [laws_szLoan.f, laws_szIntS.f]
    rw [w64 (x := c - (y.f2.length : Int)) (by omega) (by omega)]
    by_cases g : c - (y.f2.length : Int) < 0
    · simp only [if_pos g, Option.bind_some]
      exact EvS.onsome (EvS.pos (by omega) (EvS.now (.inl (by omega))))
    · simp only [if_neg g, Option.bind_some]
      refine EvS.mono (ih _ _ (h.wnext (by omega)) (by omega) (by omega)) (fun t ht => ht.imp id (fun q r hrr => ?_))
      rcases List.mem_cons.1 hrr with rfl | hrr
      · omega
      · exact q r hrr
theorem szLoanS_ok (xs : List S49) (hx : xs.length ≤ 9223372036854775807) (hr : ∀ r ∈ xs, r.f2.length ≤ 9223372036854775807) : EvS (fun k => laws_szLoanS.f k xs 1048576) (fun t => t < 0 ∨ ShW1 xs) := by
  simp only [laws_szLoanS.f]
  rw [w64 (x := 1048576 - (xs.length : Int)) (by omega) (by omega)]
  refine EvS.ite (fun _ => EvS.now (.inl (by omega))) (fun c => EvS.mono (szLoanS_l0 xs (by omega) hr xs 0 _ (At.zero _) (by omega) (by omega)) (fun t ht => ht.imp id (fun q => ⟨by omega, q⟩)))
theorem sh_cv {xs : List S49} (h : ShW1 xs) : Sh (xs.map cvLoan) := by
  have h1 := h.1
  refine ⟨by rw [List.length_map]; omega, fun e he => ?_⟩
  obtain ⟨x, hx, rfl⟩ := List.mem_map.1 he
  have := h.2 x hx
  show x.f2.length ≤ _
  omega
theorem toLoanS_l0 (xs : List S49) (hl : ShW1 xs) (ys : List S49) : ∀ (i : Int) (s : List S30), At xs i ys → s.length = xs.length → (∀ j : Int, 0 ≤ j → j < i → rd_T30 s j = cvLoan (rd_T49 xs j)) → EvS (fun k => laws_toLoanS.l0 k xs s i) (· = xs.map cvLoan) := by
  have hxl := hl.1
  induction ys with
  | nil =>
    intro i s h h1 h2
    have := h.ge
    refine EvS.step (fun k => by rw [laws_toLoanS.l0]) ?_
    exact EvS.neg (by omega) (EvS.now (listLoan_ext (by rw [List.length_map, h1]) (fun j j0 j1 => by rw [h2 j j0 (by omega), rdLoan_map xs j j0 (by omega)])))
  | cons y ys ih =>
    intro i s h h1 h2
    have g1 := h.lt
    have g2 := h.nonneg
    have hy := hl.2 y h.mem
    refine EvS.step (fun k => by rw [laws_toLoanS.l0]) ?_
    refine EvS.pos h.lt (EvS.pos h.nonneg ?_)
    rw [at_rdLaw h]
    have ht : EvS (fun k => laws_toLoan.f k y.f0 y.f1 y.f2) (· = (y.f0, y.f1, y.f2)) := by
      simp only [laws_toLoan.f]
      exact EvS.bindv (toIntS_ok y.f2 (by omega)) (EvS.now rfl)
    refine EvS.bindv ht (EvS.pos (by omega) ?_)
    rw [w64 (x := i + 1) (by omega) (by omega)]
    refine ih _ _ h.next (by simpa using h1) (fun j j0 j1 => ?_)
    rw [rdLoan_set _ _ _ _ g2 (by omega) j0]
    by_cases e : i = j
    · subst e; rw [if_pos rfl, at_rdLaw h]; rfl
    · rw [if_neg e]; exact h2 j j0 (by omega)
theorem toLoanS_ok (xs : List S49) (hl : ShW1 xs) : EvS (fun k => laws_toLoanS.f k xs) (· = xs.map cvLoan) := by
  have hxl := hl.1
  simp only [laws_toLoanS.f]
  exact EvS.pos (by omega) (EvS.pos (by omega) (toLoanS_l0 xs hl xs 0 _ (At.zero _) (by simp) (fun j j0 j1 => by omega)))
theorem eqLoanS_l0 (xs : List S30) (hl : Sh xs) (ys : List S30) : ∀ i : Int, At xs i ys → EvS (fun k => laws_eqLoanS.l0 k xs xs i) (· = true) := by
  have hxl := hl.1
  induction ys with
  | nil =>
    intro i h
    refine EvS.step (fun k => by rw [laws_eqLoanS.l0]) ?_
    exact EvS.neg (by have := h.ge; omega) (EvS.now rfl)
  | cons y ys ih =>
    intro i h
    have hy := hl.2 y h.mem
    refine EvS.step (fun k => by rw [laws_eqLoanS.l0]) ?_
    refine EvS.pos h.lt (EvS.pos h.nonneg (EvS.pos h.lt ?_))
    rw [at_rdL h]
    have he : EvS (fun k => laws_eqLoan.f k y.f0 y.f1 y.f2 y.f0 y.f1 y.f2) (· = true) := by
      simp only [laws_eqLoan.f]
      exact EvS.pos (by trivial) (EvS.pos (by trivial) (EvS.bindv (eqIntS_ok y.f2 (by omega)) (EvS.pos rfl (EvS.now rfl))))
    exact EvS.bindv he (EvS.pos rfl (ih _ (h.wnext (by omega))))
theorem eqLoanS_ok (xs : List S30) (hl : Sh xs) : EvS (fun k => laws_eqLoanS.f k xs xs) (· = true) := by
  simp only [laws_eqLoanS.f]
  exact EvS.pos (by trivial) (eqLoanS_l0 xs hl xs 0 (At.zero xs))
def G49 (x : S49) : Prop := ((Lit.int .i64 x.f0).wf = true) ∧ ((Lit.int .i64 x.f1).wf = true) ∧ (x.f2.length ≤ 9223372036854775807 ∧ ∀ y0 ∈ x.f2, (Lit.int .i64 y0).wf = true)
theorem FnExactHasRing (l0 : List S49) (g0 : l0.length ≤ 9223372036854775807 ∧ ∀ y0 ∈ l0, G49 y0) (a1 : Int) (g1 : (Lit.int .i64 a1).wf = true) : ∃ k, laws_FnExactHasRing.f k l0 a1 = some true := by
  refine EvS.holds ?_
  simp only [laws_FnExactHasRing.f]
  refine EvS.bind (szLoanS_ok l0 g0.1 (fun r hr => (g0.2 r hr).2.2.1)) (fun t ht => EvS.ite (fun _ => EvS.now rfl) (fun c => ?_))
  have hl : ShW1 l0 := by
    rcases ht with g | g
    · exact absurd g c
    · exact g
  have hs := sh_cv hl
  have hto := toLoanS_ok l0 hl
  refine EvS.bindv hto (EvS.bind (spec_HasRing_ok _ hs a1) (fun r2 hr2 => EvS.bindv hto (EvS.bind (impl_HasRing_ok _ hs a1) (fun r1 hr1 => ?_))))
  have eqr : r1 = r2 := by rw [Bool.eq_iff_iff, hr1, hr2]
  subst eqr
  exact EvS.neg (by simp) (EvS.bindv hto (EvS.bindv (eqLoanS_ok _ hs) (EvS.pos rfl (EvS.now rfl))))
end Go.Proofs.Ytehomgbacebgeaa.Pure
