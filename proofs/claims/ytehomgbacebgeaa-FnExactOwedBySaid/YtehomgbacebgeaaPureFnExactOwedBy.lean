/- OwedBy is what the reference tells, for all loans and members; and what it gives lies apart from what it was given. Conditions: none. -/
import Derived.Test.YtehomgbacebgeaaMFnExactOwedByx0
import Derived.Test.YtehomgbacebgeaaMFnExactOwedByx1
import Derived.Test.YtehomgbacebgeaaMFnExactOwedByx2
import Derived.Test.YtehomgbacebgeaaMFnExactOwedByx3
import Derived.Test.YtehomgbacebgeaaMFnExactOwedByx4
import Derived.Test.YtehomgbacebgeaaMFnExactOwedByx5
import Derived.Test.YtehomgbacebgeaaBase
set_option linter.unusedVariables false
set_option linter.unusedSimpArgs false
namespace Go.Proofs.Ytehomgbacebgeaa.Pure
open Go.RowKit Go.Proofs.Ytehomgbacebgeaa.PFnExactOwedBy Go.Proofs.YtehomgbacebgeaaW.PrintWords Go.Proofs.YtehomgbacebgeaaW.PrintLast Go.Proofs.YtehomgbacebgeaaW.PrintMore Go.Proofs.Ytehomgbacebgeaa.Base
theorem u8_range {x : Int} (h : (Lit.int .u8 x).wf = true) : 0 ≤ x ∧ x ≤ 255 := by
  simp [Lit.wf, IntKind.min, IntKind.max, IntKind.bits, IntKind.signed] at h
  omega
/-! ## Lists of numbers. -/
theorem inRange_eq (n lo hi : Int) : spec_inRange.f n lo hi = some (decide (lo ≤ n ∧ n ≤ hi)) := by
  unfold spec_inRange.f
  split
  · exact congrArg some (decide_eq_decide.2 (by omega))
  · exact congrArg some (decide_eq_false (by omega)).symm
def AllW (xs : List Int) (lo hi : Int) : Prop := ∀ x ∈ xs, lo ≤ x ∧ x ≤ hi
instance (xs : List Int) (lo hi : Int) : Decidable (AllW xs lo hi) := by unfold AllW; infer_instance
theorem allW_cons (y : Int) (ys : List Int) (lo hi : Int) : AllW (y :: ys) lo hi ↔ (lo ≤ y ∧ y ≤ hi) ∧ AllW ys lo hi := by
  unfold AllW; simp
/-- The first place of a number, counted from i on; -1 if it is not there. -/
def posF (v : Int) : Int → List Int → Int
  | _, [] => -1
  | i, x :: xs => if x = v then i else posF v (i + 1) xs
theorem posF_range (v : Int) (xs : List Int) : ∀ i : Int, 0 ≤ i → (v ∈ xs → i ≤ posF v i xs ∧ posF v i xs < i + xs.length) ∧ (v ∉ xs → posF v i xs = -1) := by
  induction xs with
  | nil => intro i h0; exact ⟨fun h => by simp at h, fun _ => rfl⟩
  | cons x xs ih =>
    intro i h0
    have h := ih (i + 1) (by omega)
    simp only [posF, List.length_cons]
    by_cases c : x = v
    · rw [if_pos c]; exact ⟨fun _ => by omega, fun g => absurd (by simp [c]) g⟩
    · rw [if_neg c]
      refine ⟨fun g => ?_, fun g => h.2 (fun g2 => g (List.mem_cons_of_mem _ g2))⟩
      have := h.1 ((List.mem_cons.1 g).resolve_left (fun e => c e.symm))
      omega
theorem posF_nonneg (v : Int) (xs : List Int) (i : Int) (h : 0 ≤ i) : (0 ≤ posF v i xs) ↔ v ∈ xs := by
  by_cases c : v ∈ xs
  · have := (posF_range v xs i h).1 c; exact ⟨fun _ => c, fun _ => by omega⟩
  · have := (posF_range v xs i h).2 c; exact ⟨fun g => by omega, fun g => absurd g c⟩
theorem placeIn_l0 (xs : List Int) (hl : xs.length ≤ 1099511627776) (v : Int) (ys : List Int) : ∀ i : Int, At xs i ys → EvS (fun k => spec_placeIn.l0 k xs v i) (· = posF v i ys) := by
  induction ys with
  | nil =>
    intro i h
    refine EvS.step (fun k => by rw [spec_placeIn.l0]) ?_
    exact EvS.neg (by have := h.ge; omega) (EvS.now rfl)
  | cons y ys ih =>
    intro i h
    have h1 := h.lt
    have h2 := h.nonneg
    have hw : wrap64 (i + 1) = i + 1 := w64 (by omega) (by omega)
    refine EvS.step (fun k => by rw [spec_placeIn.l0]) ?_
    refine EvS.pos h.lt (EvS.pos h.nonneg ?_)
    rw [At.rd h, hw, posF]
    by_cases c : y = v
    · rw [if_pos c]; exact EvS.pos c (EvS.now rfl)
    · rw [if_neg c]; exact EvS.neg c (ih _ h.next)
theorem placeIn_ok (xs : List Int) (hl : xs.length ≤ 1099511627776) (v : Int) : EvS (fun k => spec_placeIn.f k xs v) (· = posF v 0 xs) := by
  simp only [spec_placeIn.f]
  exact placeIn_l0 xs hl v xs 0 (At.zero xs)
theorem index_l0 (xs : List Int) (hl : xs.length ≤ 1099511627776) (v : Int) (ys : List Int) : ∀ i : Int, At xs i ys → EvS (fun k => slices_Index_int_int.l0 k xs v xs.length i) (· = posF v i ys) := by
  induction ys with
  | nil =>
    intro i h
    refine EvS.step (fun k => by rw [slices_Index_int_int.l0]) ?_
    exact EvS.neg (by have := h.ge; omega) (EvS.now rfl)
  | cons y ys ih =>
    intro i h
    have h1 := h.lt
    have h2 := h.nonneg
    have hw : wrap64 (i + 1) = i + 1 := w64 (by omega) (by omega)
    refine EvS.step (fun k => by rw [slices_Index_int_int.l0]) ?_
    refine EvS.pos h.lt (EvS.pos h.nonneg (EvS.pos h.lt ?_))
    rw [At.rd h, hw, posF]
    by_cases c : y = v
    · rw [if_pos c]; exact EvS.pos c.symm (EvS.now rfl)
    · rw [if_neg c]; exact EvS.neg (fun g => c g.symm) (ih _ h.next)
theorem index_ok (xs : List Int) (hl : xs.length ≤ 1099511627776) (v : Int) : EvS (fun k => slices_Index_int_int.f k xs v) (· = posF v 0 xs) := by
  simp only [slices_Index_int_int.f]
  exact index_l0 xs hl v xs 0 (At.zero xs)
theorem contains_ok (xs : List Int) (hl : xs.length ≤ 1099511627776) (v : Int) : EvS (fun k => slices_Contains_int_int.f k xs v) (· = decide (v ∈ xs)) := by
  simp only [slices_Contains_int_int.f]
  exact EvS.bindv (index_ok xs hl v) (EvS.now (decide_eq_decide.2 (posF_nonneg v xs 0 (by omega))))
/-- Different numbers from 0 to n - 1. -/
def Diff (xs : List Int) (n : Int) : Prop := xs.Nodup ∧ ∀ x ∈ xs, 0 ≤ x ∧ x < n
instance (xs : List Int) (n : Int) : Decidable (Diff xs n) := by unfold Diff; infer_instance
def DiffF (pre ys : List Int) (n : Int) : Prop := ys.Nodup ∧ ∀ y ∈ ys, 0 ≤ y ∧ y < n ∧ y ∉ pre
instance (pre ys : List Int) (n : Int) : Decidable (DiffF pre ys n) := by unfold DiffF; infer_instance
theorem diffF_cons (pre : List Int) (y : Int) (ys : List Int) (n : Int) : DiffF pre (y :: ys) n ↔ (0 ≤ y ∧ y < n ∧ y ∉ pre) ∧ DiffF (y :: pre) ys n := by
  unfold DiffF
  constructor
  · rintro ⟨h1, h2⟩
    have h1 := List.nodup_cons.1 h1
    refine ⟨h2 y List.mem_cons_self, h1.2, fun z hz => ?_⟩
    have := h2 z (List.mem_cons_of_mem _ hz)
    refine ⟨this.1, this.2.1, fun hm => ?_⟩
    rcases List.mem_cons.1 hm with rfl | hm
    · exact h1.1 hz
    · exact this.2.2 hm
  · rintro ⟨h1, h2, h3⟩
    refine ⟨List.nodup_cons.2 ⟨fun hm => (h3 y hm).2.2 List.mem_cons_self, h2⟩, fun z hz => ?_⟩
    rcases List.mem_cons.1 hz with rfl | hz
    · exact h1
    · have := h3 z hz
      exact ⟨this.1, this.2.1, fun hm => this.2.2 (List.mem_cons_of_mem _ hm)⟩
theorem diffF_congr {p q ys : List Int} {n : Int} (h : ∀ x, x ∈ p ↔ x ∈ q) : DiffF p ys n ↔ DiffF q ys n := by
  unfold DiffF
  simp only [h]
theorem diffF_nil (xs : List Int) (n : Int) : DiffF [] xs n ↔ Diff xs n := by
  unfold DiffF Diff; simp
theorem diff_len {xs : List Int} {n : Int} (h : Diff xs n) : (xs.length : Int) ≤ n ∨ xs = [] := by
  rcases xs with _ | ⟨x, xs⟩
  · exact .inr rfl
  · left
    have h1 : 0 ≤ n := by have := h.2 x List.mem_cons_self; omega
    have h2 : (x :: xs) ⊆ (List.range n.toNat).map (fun m : Nat => (m : Int)) := by
      intro y hy
      have := h.2 y hy
      exact List.mem_map.2 ⟨y.toNat, List.mem_range.2 (by omega), by omega⟩
    have h3 := h.1.length_le_of_subset h2
    rw [List.length_map, List.length_range] at h3
    omega
theorem differentBelow_l0 (xs : List Int) (hl : xs.length ≤ 1099511627776) (n : Int) (ys : List Int) : ∀ (i : Int) (seen : List Bool) (pre : List Int), At xs i ys → (seen.length : Int) = n → (∀ v : Int, 0 ≤ v → v < n → (rdOf false seen v = true ↔ v ∈ pre)) →
    EvS (fun k => impl_differentBelow.l0 k n seen xs xs.length i) (· = decide (DiffF pre ys n)) := by
  induction ys with
  | nil =>
    intro i seen pre h hs hv
    refine EvS.step (fun k => by rw [impl_differentBelow.l0]) ?_
    exact EvS.neg (by have := h.ge; omega) (EvS.now (by simp [DiffF]))
  | cons y ys ih =>
    intro i seen pre h hs hv
    refine EvS.step (fun k => by rw [impl_differentBelow.l0]) ?_
    refine EvS.pos h.lt (EvS.pos h.nonneg (EvS.pos h.lt ?_))
    rw [At.rd h]
    refine EvS.ite (fun c => EvS.now (decide_eq_false (fun g => by have := ((diffF_cons _ _ _ _).1 g).1; omega)).symm) (fun c1 => EvS.ite (fun c => EvS.now (decide_eq_false (fun g => by have := ((diffF_cons _ _ _ _).1 g).1; omega)).symm) (fun c2 => EvS.pos (by omega) (EvS.pos (by omega) ?_)))
    have hy := hv y (by omega) (by omega)
    refine EvS.ite (fun c => EvS.now (decide_eq_false (fun g => ((diffF_cons _ _ _ _).1 g).1.2.2 (hy.1 c))).symm) (fun c3 => ?_)
    refine EvS.mono (ih _ (seen.set y.toNat true) (y :: pre) (h.wnext (by omega)) (by simpa using hs) (fun v h0 h1 => ?_)) (fun r hr => ?_)
    · unfold rdOf
      rw [List.getD_eq_getElem?_getD, List.getElem?_set]
      by_cases e : y = v
      · subst e
        rw [if_pos rfl, if_pos (by omega)]
        exact ⟨fun _ => List.mem_cons_self, fun _ => rfl⟩
      · rw [if_neg (by omega)]
        have := hv v h0 h1
        unfold rdOf at this
        rw [List.getD_eq_getElem?_getD] at this
        rw [this, List.mem_cons]
        exact ⟨fun g => .inr g, fun g => g.resolve_left (fun e2 => e e2.symm)⟩
    · rw [hr]
      exact decide_eq_decide.2 ⟨fun g => (diffF_cons _ _ _ _).2 ⟨⟨by omega, by omega, fun hm => c3 (hy.2 hm)⟩, g⟩, fun g => ((diffF_cons _ _ _ _).1 g).2⟩
theorem differentBelow_ok (xs : List Int) (hl : xs.length ≤ 1099511627776) (n : Int) (hn : n ≤ 1099511627776) (h0 : 0 ≤ n) : EvS (fun k => impl_differentBelow.f k xs n) (· = decide (Diff xs n)) := by
  simp only [impl_differentBelow.f]
  refine EvS.ite (fun c => EvS.now (decide_eq_false (fun g => ?_)).symm) (fun c => EvS.pos h0 (EvS.pos (by omega) ?_))
  · rcases diff_len g with h | h
    · omega
    · subst h; simp at c; omega
  · refine EvS.mono (differentBelow_l0 xs hl n xs 0 _ [] (At.zero xs) (by simp; omega) (fun v _ _ => ?_)) (fun r hr => ?_)
    · unfold rdOf
      rw [List.getD_eq_getElem?_getD, List.getElem?_replicate]
      split <;> simp
    · rw [hr]
      exact decide_eq_decide.2 (diffF_nil xs n)
theorem validMembers_l0 (xs : List Int) (hl : xs.length ≤ 1099511627776) (n : Int) (hn : n ≤ 1099511627776) (h0 : 0 ≤ n) (ys : List Int) : ∀ i : Int, At xs i ys → EvS (fun k => spec_validMembers.l0 k xs n i) (· = decide (DiffF (xs.take i.toNat) ys n)) := by
  induction ys with
  | nil =>
    intro i h
    refine EvS.step (fun k => by rw [spec_validMembers.l0]) ?_
    exact EvS.neg (by have := h.ge; omega) (EvS.now (by simp [DiffF]))
  | cons y ys ih =>
    intro i h
    have h1 := h.lt
    have h2 := h.nonneg
    have hw : wrap64 (i + 1) = i + 1 := w64 (by omega) (by omega)
    refine EvS.step (fun k => by rw [spec_validMembers.l0]) ?_
    refine EvS.pos h.lt (EvS.pos h.nonneg ?_)
    rw [At.rd h, hw, w64 (x := n - 1) (by omega) (by omega)]
    refine EvS.call (inRange_eq _ _ _) (EvS.ite (fun c => EvS.pos (by omega) ?_) (fun c => EvS.now ?_))
    · have c := of_decide_eq_true c
      refine EvS.bindv (placeIn_ok _ (by rw [List.length_take]; omega) y) ?_
      have hp := posF_nonneg y (xs.take i.toNat) 0 (by omega)
      refine EvS.ite (fun g => EvS.now (decide_eq_false (fun g2 => ((diffF_cons _ _ _ _).1 g2).1.2.2 (hp.1 g))).symm) (fun g => ?_)
      refine EvS.mono (ih _ h.next) (fun r hr => ?_)
      rw [hr]
      refine decide_eq_decide.2 (Iff.trans (diffF_congr (q := y :: xs.take i.toNat) (fun x => ?_)) ⟨fun g2 => (diffF_cons _ _ _ _).2 ⟨⟨c.1, by omega, fun hm => g (hp.2 hm)⟩, g2⟩, fun g2 => ((diffF_cons _ _ _ _).1 g2).2⟩)
      simp only [h.take, List.mem_append, List.mem_cons, List.not_mem_nil, or_false]
      exact or_comm
    · have c := ndec c
      exact (decide_eq_false (fun g => c (by have := ((diffF_cons _ _ _ _).1 g).1; omega))).symm
theorem validMembers_ok (xs : List Int) (hl : xs.length ≤ 1099511627776) (n : Int) (hn : n ≤ 1099511627776) (h0 : 0 ≤ n) : EvS (fun k => spec_validMembers.f k xs n) (· = decide (Diff xs n)) := by
  simp only [spec_validMembers.f]
  refine EvS.mono (validMembers_l0 xs hl n hn h0 xs 0 (At.zero xs)) (fun r hr => ?_)
  rw [hr]
  exact decide_eq_decide.2 (diffF_nil xs n)
/-! ## Bodies that vote. -/
def tot : List Int → Int
  | [] => 0
  | x :: xs => x + tot xs
theorem tot_range {xs : List Int} {hi : Int} (h0 : 0 ≤ hi) (h : AllW xs 0 hi) : 0 ≤ tot xs ∧ tot xs ≤ xs.length * hi := by
  induction xs with
  | nil => simp [tot]
  | cons x xs ih =>
    have h1 := (allW_cons _ _ _ _).1 h
    have h2 := ih h1.2
    simp only [tot, List.length_cons, Int.natCast_add, Int.add_mul]
    omega
theorem tot_bound {xs : List Int} (h : ∀ x ∈ xs, -1000000000000 ≤ x ∧ x ≤ 1000000000000) : -(1000000000000 * (xs.length : Int)) ≤ tot xs ∧ tot xs ≤ 1000000000000 * xs.length := by
  induction xs with
  | nil => simp [tot]
  | cons x xs ih =>
    have h1 := h x List.mem_cons_self
    have h2 := ih (fun y hy => h y (List.mem_cons_of_mem _ hy))
    simp only [tot, List.length_cons]
    omega
/-! ## Amounts divided into equal parts. -/
theorem list_ext {xs ys : List Int} (hl : xs.length = ys.length) (h : ∀ i : Int, 0 ≤ i → i < xs.length → rd xs i = rd ys i) : xs = ys := by
  apply List.ext_getElem hl
  intro n h1 h2
  have := h n (by omega) (by omega)
  unfold rd at this
  simp only [Int.toNat_natCast] at this
  rw [List.getD_eq_getElem?_getD, List.getD_eq_getElem?_getD, List.getElem?_eq_getElem h1, List.getElem?_eq_getElem h2] at this
  exact this
theorem rd_set (xs : List Int) (i j v : Int) (h0 : 0 ≤ i) (h1 : i < xs.length) (h2 : 0 ≤ j) : rd (xs.set i.toNat v) j = if i = j then v else rd xs j := by
  unfold rd
  rw [List.getD_eq_getElem?_getD, List.getElem?_set]
  by_cases c : i = j
  · subst c; rw [if_pos rfl, if_pos (by omega), if_pos rfl]; rfl
  · rw [if_neg (by omega), if_neg c, List.getD_eq_getElem?_getD]
theorem rd_zeros (n : Nat) (j : Int) : rd (List.replicate n 0) j = 0 := by
  unfold rd
  rw [List.getD_eq_getElem?_getD, List.getElem?_replicate]
  split <;> rfl
theorem rd_snoc (xs : List Int) (v j : Int) (h0 : 0 ≤ j) : rd (xs ++ [v]) j = if j < xs.length then rd xs j else if j = xs.length then v else 0 := by
  unfold rd
  rw [List.getD_eq_getElem?_getD, List.getD_eq_getElem?_getD]
  by_cases c : j < xs.length
  · rw [if_pos c, List.getElem?_append_left (by omega)]
  · rw [if_neg c, List.getElem?_append_right (by omega)]
    by_cases c2 : j = xs.length
    · rw [if_pos c2, c2]; simp
    · rw [if_neg c2, List.getElem?_eq_none (by simp; omega)]; rfl
/-! ## Valid loans. -/
def VL (m : Int) (e : S30) : Prop := (0 ≤ e.f0 ∧ e.f0 < m) ∧ (1 ≤ e.f1 ∧ e.f1 ≤ 100000) ∧ 1 ≤ e.f2.length ∧ Diff e.f2 m ∧ e.f0 ∉ e.f2
instance (m : Int) (e : S30) : Decidable (VL m e) := by unfold VL; infer_instance
def VLs (l : List S30) (m : Int) : Prop := (1 ≤ m ∧ m ≤ 12) ∧ l.length ≤ 16 ∧ ∀ e ∈ l, VL m e
instance (l : List S30) (m : Int) : Decidable (VLs l m) := by unfold VLs; infer_instance
/-- Lists short enough for the machine. -/
def Sh (l : List S30) : Prop := l.length ≤ 2000000 ∧ ∀ e ∈ l, e.f2.length ≤ 2000000
theorem at_rdL {xs ys : List S30} {i : Int} {y : S30} (h : At xs i (y :: ys)) : rd_T30 xs i = y := h.getD _
theorem all_cons {α : Type} {P : α → Prop} {y : α} {ys : List α} (h : P y) : (∀ e ∈ y :: ys, P e) ↔ ∀ e ∈ ys, P e :=
  ⟨fun g e he => g e (List.mem_cons_of_mem _ he), fun g e he => by rcases List.mem_cons.1 he with rfl | he; exact h; exact g e he⟩
theorem impl_ValidLoans_l0 (xs : List S30) (hl : Sh xs) (m : Int) (hm : 1 ≤ m ∧ m ≤ 12) (ys : List S30) : ∀ i : Int, At xs i ys → EvS (fun k => impl_ValidLoans.l0 k m xs xs.length i) (· = decide (∀ e ∈ ys, VL m e)) := by
  have hxl := hl.1
  induction ys with
  | nil =>
    intro i h
    refine EvS.step (fun k => by rw [impl_ValidLoans.l0]) ?_
    exact EvS.neg (by have := h.ge; omega) (EvS.now (by simp))
  | cons y ys ih =>
    intro i h
    have hy := hl.2 y h.mem
    refine EvS.step (fun k => by rw [impl_ValidLoans.l0]) ?_
    refine EvS.pos h.lt (EvS.pos h.nonneg (EvS.pos h.lt ?_))
    rw [at_rdL h]
    have no : ¬ VL m y → false = decide (∀ e ∈ y :: ys, VL m e) := fun g => (decide_eq_false (fun q => g (q y List.mem_cons_self))).symm
    have jt : ¬ VL m y → EvS (fun k => impl_ValidLoans.j2 k m xs xs.length i true y.f0 y.f1 y.f2) (· = decide (∀ e ∈ y :: ys, VL m e)) := by
      intro g
      refine EvS.step (fun k => by rw [impl_ValidLoans.j2]) ?_
      exact EvS.pos rfl (EvS.now (no g))
    refine EvS.ite (fun c => jt (fun g => by have := g.1; omega)) (fun c1 => EvS.ite (fun c => jt (fun g => by have := g.1; omega)) (fun c2 => EvS.ite (fun c => jt (fun g => by have := g.2.1; omega)) (fun c3 => ?_)))
    by_cases c4 : y.f1 > 100000
    · rw [decide_eq_true c4]; exact jt (fun g => by have := g.2.1; omega)
    · rw [decide_eq_false c4]
      refine EvS.step (fun k => by rw [impl_ValidLoans.j2]) ?_
      refine EvS.neg (by simp) (EvS.ite (fun c => EvS.now (no (fun g => by have := g.2.2.1; omega))) (fun c5 => EvS.bindv (differentBelow_ok y.f2 (by omega) m (by omega) (by omega)) (EvS.ite (fun c6 => EvS.bindv (contains_ok y.f2 (by omega) y.f0) (EvS.ite (fun c7 => EvS.now (no (fun g => g.2.2.2.2 (of_decide_eq_true c7)))) (fun c7 => ?_))) (fun c6 => EvS.now (no (fun g => ndec c6 g.2.2.2.1))))))
      refine EvS.mono (ih _ (h.wnext (by omega))) (fun r hr => ?_)
      rw [hr]
      exact decide_eq_decide.2 (all_cons (P := VL m) (y := y) (⟨by omega, by omega, by omega, of_decide_eq_true c6, ndec c7⟩ : VL m y)).symm
theorem impl_ValidLoans_ok (xs : List S30) (hl : Sh xs) (m : Int) : EvS (fun k => impl_ValidLoans.f k xs m) (· = decide (VLs xs m)) := by
  have jt : ¬ VLs xs m → EvS (fun k => impl_ValidLoans.j0 k xs m true) (· = decide (VLs xs m)) := by
    intro g
    refine EvS.step (fun k => by rw [impl_ValidLoans.j0]) ?_
    exact EvS.pos rfl (EvS.now (decide_eq_false g).symm)
  simp only [impl_ValidLoans.f]
  refine EvS.ite (fun c => jt (fun g => by have := g.2.1; omega)) (fun c1 => EvS.ite (fun c => jt (fun g => by have := g.1; omega)) (fun c2 => ?_))
  by_cases c3 : m > 12
  · rw [decide_eq_true c3]; exact jt (fun g => by have := g.1; omega)
  · rw [decide_eq_false c3]
    refine EvS.step (fun k => by rw [impl_ValidLoans.j0]) ?_
    refine EvS.neg (by simp) (EvS.mono (impl_ValidLoans_l0 xs hl m (by omega) xs 0 (At.zero _)) (fun r hr => ?_))
    rw [hr]
    exact decide_eq_decide.2 ⟨fun g => ⟨by omega, by omega, g⟩, fun g => g.2.2⟩
theorem spec_validLoans_l0 (xs : List S30) (hl : Sh xs) (m : Int) (hm : 0 ≤ m ∧ m ≤ 1000) (ys : List S30) : ∀ i : Int, At xs i ys → EvS (fun k => spec_validLoans.l0 k xs m i) (· = decide ((1 ≤ m ∧ m ≤ 12) ∧ xs.length ≤ 16 ∧ ∀ e ∈ ys, VL m e)) := by
  have hxl := hl.1
  induction ys with
  | nil =>
    intro i h
    refine EvS.step (fun k => by rw [spec_validLoans.l0]) ?_
    refine EvS.neg (by have := h.ge; omega) (EvS.ite (fun c => EvS.call (inRange_eq _ _ _) (EvS.now ?_)) (fun c => EvS.now ?_))
    · exact decide_eq_decide.2 ⟨fun g => ⟨g, by omega, by simp⟩, fun g => g.1⟩
    · exact (decide_eq_false (fun g => by have := g.2.1; omega)).symm
  | cons y ys ih =>
    intro i h
    have hy := hl.2 y h.mem
    refine EvS.step (fun k => by rw [spec_validLoans.l0]) ?_
    refine EvS.pos h.lt (EvS.pos h.nonneg ?_)
    rw [at_rdL h, w64 (x := m - 1) (by omega) (by omega)]
    have no : ¬ VL m y → false = decide ((1 ≤ m ∧ m ≤ 12) ∧ xs.length ≤ 16 ∧ ∀ e ∈ y :: ys, VL m e) := fun g => (decide_eq_false (fun q => g (q.2.2 y List.mem_cons_self))).symm
    refine EvS.call (inRange_eq _ _ _) (EvS.ite (fun c1 => EvS.call (inRange_eq _ _ _) (EvS.ite (fun c2 => EvS.ite (fun c => EvS.now (no (fun g => by have := g.2.2.1; omega))) (fun c3 => EvS.bindv (validMembers_ok y.f2 (by omega) m (by omega) (by omega)) (EvS.ite (fun c4 => EvS.bindv (placeIn_ok y.f2 (by omega) y.f0) (EvS.ite (fun c5 => EvS.now (no (fun g => g.2.2.2.2 ((posF_nonneg _ _ _ (by omega)).1 c5)))) (fun c5 => ?_))) (fun c4 => EvS.now (no (fun g => ndec c4 g.2.2.2.1)))))) (fun c2 => EvS.now (no (fun g => ndec c2 g.2.1))))) (fun c1 => EvS.now (no (fun g => ndec c1 (by have := g.1; omega)))))
    have c1 := of_decide_eq_true c1
    refine EvS.mono (ih _ (h.wnext (by omega))) (fun r hr => ?_)
    rw [hr]
    exact decide_eq_decide.2 (and_congr_right fun _ => and_congr_right fun _ => (all_cons (P := VL m) (y := y) (⟨by omega, of_decide_eq_true c2, by omega, of_decide_eq_true c4, fun g => c5 ((posF_nonneg _ _ _ (by omega)).2 g)⟩ : VL m y)).symm)
theorem spec_validLoans_ok (xs : List S30) (hl : Sh xs) (m : Int) (hm : 0 ≤ m ∧ m ≤ 1000) : EvS (fun k => spec_validLoans.f k xs m) (· = decide (VLs xs m)) := by
  simp only [spec_validLoans.f]
  exact spec_validLoans_l0 xs hl m hm xs 0 (At.zero _)
/-! ## Loans among any number of members. -/
theorem validMembers_any_l0 (xs : List Int) (hl : xs.length ≤ 2000000) (n : Int) (ys : List Int) : ∀ i : Int, At xs i ys → EvS (fun k => spec_validMembers.l0 k xs n i) (fun _ => True) := by
  induction ys with
  | nil =>
    intro i h
    refine EvS.step (fun k => by rw [spec_validMembers.l0]) ?_
    exact EvS.neg (by have := h.ge; omega) (EvS.now trivial)
  | cons y ys ih =>
    intro i h
    have h1 := h.lt
    refine EvS.step (fun k => by rw [spec_validMembers.l0]) ?_
    refine EvS.pos h.lt (EvS.pos h.nonneg (EvS.call (inRange_eq _ _ _) (EvS.ite (fun c => EvS.pos (by omega) ?_) (fun c => EvS.now trivial))))
    exact EvS.bindv (placeIn_ok _ (by rw [List.length_take]; omega) _) (EvS.ite (fun _ => EvS.now trivial) (fun _ => ih _ (h.wnext (by omega))))
theorem validMembers_any (xs : List Int) (hl : xs.length ≤ 2000000) (n : Int) : EvS (fun k => spec_validMembers.f k xs n) (fun _ => True) := by
  simp only [spec_validMembers.f]
  exact validMembers_any_l0 xs hl n xs 0 (At.zero _)
theorem spec_validLoans_bad (xs : List S30) (hl : Sh xs) (m : Int) (hm : ¬ (1 ≤ m ∧ m ≤ 12)) (ys : List S30) : ∀ i : Int, At xs i ys → EvS (fun k => spec_validLoans.l0 k xs m i) (· = false) := by
  have hxl := hl.1
  induction ys with
  | nil =>
    intro i h
    refine EvS.step (fun k => by rw [spec_validLoans.l0]) ?_
    exact EvS.neg (by have := h.ge; omega) (EvS.ite (fun c => EvS.call (inRange_eq _ _ _) (EvS.now (decide_eq_false hm))) (fun c => EvS.now rfl))
  | cons y ys ih =>
    intro i h
    have hy := hl.2 y h.mem
    refine EvS.step (fun k => by rw [spec_validLoans.l0]) ?_
    refine EvS.pos h.lt (EvS.pos h.nonneg ?_)
    rw [at_rdL h]
    refine EvS.call (inRange_eq _ _ _) (EvS.ite (fun _ => EvS.call (inRange_eq _ _ _) (EvS.ite (fun _ => EvS.ite (fun _ => EvS.now rfl) (fun _ => EvS.bind (validMembers_any y.f2 hy m) (fun b _ => EvS.ite (fun _ => EvS.bindv (placeIn_ok y.f2 (by omega) y.f0) (EvS.ite (fun _ => EvS.now rfl) (fun _ => ?_))) (fun _ => EvS.now rfl)))) (fun _ => EvS.now rfl))) (fun _ => EvS.now rfl))
    exact ih _ (h.wnext (by omega))
theorem spec_validLoans_all (xs : List S30) (hl : Sh xs) (m : Int) : EvS (fun k => spec_validLoans.f k xs m) (· = decide (VLs xs m)) := by
  by_cases c : 1 ≤ m ∧ m ≤ 12
  · exact spec_validLoans_ok xs hl m (by omega)
  · simp only [spec_validLoans.f]
    rw [decide_eq_false (fun g : VLs xs m => c g.1)]
    exact spec_validLoans_bad xs hl m c xs 0 (At.zero _)
/-! ## Sums by member. -/
theorem tot_setN (xs : List Int) : ∀ (n : Nat) (v : Int), n < xs.length → tot (xs.set n v) = tot xs - xs.getD n 0 + v := by
  induction xs with
  | nil => intro n v h; simp at h
  | cons x xs ih =>
    intro n v h
    cases n with
    | zero => simp [tot]; omega
    | succ n =>
      have := ih n v (by simpa using h)
      simp only [List.set_cons_succ, tot, List.getD_cons_succ]
      omega
theorem tot_set (xs : List Int) (i v : Int) (h0 : 0 ≤ i) (h1 : i < xs.length) : tot (xs.set i.toNat v) = tot xs - rd xs i + v := tot_setN xs i.toNat v (by omega)
theorem tot_zeros (n : Nat) : tot (List.replicate n 0) = 0 := by
  induction n with
  | zero => rfl
  | succ n ih => simp [List.replicate_succ, tot, ih]
def lentL : List S30 → Int
  | [] => 0
  | e :: l => e.f1 + lentL l
theorem lentL_bound {m : Int} (l : List S30) (h : ∀ e ∈ l, VL m e) : 0 ≤ lentL l ∧ lentL l ≤ 100000 * (l.length : Int) := by
  induction l with
  | nil => simp [lentL]
  | cons e l ih =>
    have h1 := ih (fun x hx => h x (List.mem_cons_of_mem _ hx))
    have h2 := (h e List.mem_cons_self).2.1
    simp only [lentL, List.length_cons]
    omega
/-- r tells f for each member, and in all s. -/
structure Tab (m : Int) (f : Int → Int) (s : Int) (r : List Int) : Prop where
  len : (r.length : Int) = m
  val : ∀ j : Int, 0 ≤ j → j < m → rd r j = f j
  sum : tot r = s
theorem Tab.eq {m s : Int} {f : Int → Int} {r q : List Int} (h : Tab m f s r) (g : Tab m f s q) : r = q :=
  list_ext (by have := h.len; have := g.len; omega) (fun i h0 h1 => by have := h.len; rw [h.val i h0 (by omega), g.val i h0 (by omega)])
theorem Tab.mem {m s B : Int} {f : Int → Int} {r : List Int} (h : Tab m f s r) (hf : ∀ j, 0 ≤ f j ∧ f j ≤ B) : ∀ x ∈ r, 0 ≤ x ∧ x ≤ B := by
  intro x hx
  obtain ⟨n, hn, rfl⟩ := List.mem_iff_getElem.1 hx
  have := h.val n (by omega) (by have := h.len; omega)
  have e : rd r n = r[n] := by unfold rd; rw [List.getD_eq_getElem?_getD]; simp [hn]
  rw [← e, this]; exact hf _
def owed : List S30 → Int → Int
  | [], _ => 0
  | e :: l, j => (if e.f0 = j then e.f1 else 0) + owed l j
theorem owed_bound {m : Int} (l : List S30) (h : ∀ e ∈ l, VL m e) (j : Int) : 0 ≤ owed l j ∧ owed l j ≤ 100000 * (l.length : Int) := by
  induction l with
  | nil => simp [owed]
  | cons e l ih =>
    have h1 := ih (fun x hx => h x (List.mem_cons_of_mem _ hx))
    have h2 := (h e List.mem_cons_self).2.1
    simp only [owed, List.length_cons]
    split <;> omega
theorem impl_owed_l0 (xs : List S30) (m : Int) (hv : VLs xs m) (ys : List S30) : ∀ (i : Int) (s : List Int), At xs i ys → (s.length : Int) = m → (∀ j : Int, 0 ≤ j → j < m → rd s j + owed ys j = owed xs j) → tot s + lentL ys = lentL xs → EvS (fun k => impl_OwedBy.l0 k s xs xs.length i) (Tab m (owed xs) (lentL xs)) := by
  have hxl := hv.2.1
  induction ys with
  | nil =>
    intro i s h h8 hs ht
    refine EvS.step (fun k => by rw [impl_OwedBy.l0]) ?_
    exact EvS.neg (by have := h.ge; omega) (EvS.now ⟨h8, fun j h0 h1 => by have := hs j h0 h1; simp [owed] at this; exact this, by simp [lentL] at ht; exact ht⟩)
  | cons y ys ih =>
    intro i s h h8 hs ht
    refine EvS.step (fun k => by rw [impl_OwedBy.l0]) ?_
    refine EvS.pos h.lt (EvS.pos h.nonneg (EvS.pos h.lt ?_))
    rw [at_rdL h]
    have hy := hv.2.2 y h.mem
    have hb := owed_bound (y :: ys) (fun e he => hv.2.2 e (h.sub e he))
    have hbx := owed_bound xs hv.2.2
    have hyl : (y :: ys).length ≤ 16 := by have := h.len; have := h.nonneg; omega
    have g1 := hy.1
    have g2 := hy.2.1
    have b1 : -100000000 ≤ rd s y.f0 ∧ rd s y.f0 ≤ 100000000 := by have := hs y.f0 g1.1 g1.2; have := hb y.f0; have := hbx y.f0; omega
    refine EvS.pos g1.1 (EvS.pos (by omega) ?_)
    rw [w64 (x := rd s y.f0 + y.f1) (by omega) (by omega)]
    refine ih _ _ (h.wnext (by omega)) (by simpa using h8) (fun j h0 h1 => ?_) ?_
    · rw [rd_set _ _ _ _ g1.1 (by omega) h0]
      have := hs j h0 h1
      simp only [owed] at this
      by_cases c : y.f0 = j
      · rw [if_pos c]; rw [if_pos c] at this; rw [c] at *; omega
      · rw [if_neg c]; rw [if_neg c] at this; omega
    · rw [tot_set _ _ _ g1.1 (by omega)]; simp only [lentL] at ht; omega
theorem impl_OwedBy_ok (xs : List S30) (hl : Sh xs) (m : Int) : EvS (fun k => impl_OwedBy.f k xs m) (fun r => if VLs xs m then Tab m (owed xs) (lentL xs) r else r = []) := by
  simp only [impl_OwedBy.f]
  refine EvS.bindv (impl_ValidLoans_ok xs hl m) ?_
  by_cases hv : VLs xs m
  · simp only [if_pos hv]
    have hm := hv.1
    exact EvS.pos (decide_eq_true hv) (EvS.pos (by omega) (EvS.pos (by omega) (impl_owed_l0 xs m hv xs 0 _ (At.zero xs) (by simp; omega) (fun j _ _ => by rw [rd_zeros]; omega) (by rw [tot_zeros]; omega))))
  · simp only [if_neg hv]
    exact EvS.neg (by simp [hv]) (EvS.now rfl)
theorem spec_owed_l0 (xs : List S30) (m : Int) (hv : VLs xs m) (ys : List S30) : ∀ (i : Int) (s : List Int), At xs i ys → (s.length : Int) = m → (∀ j : Int, 0 ≤ j → j < m → rd s j + owed ys j = owed xs j) → tot s + lentL ys = lentL xs → EvS (fun k => spec_OwedBy.l0 k xs s i) (Tab m (owed xs) (lentL xs)) := by
  have hxl := hv.2.1
  induction ys with
  | nil =>
    intro i s h h8 hs ht
    refine EvS.step (fun k => by rw [spec_OwedBy.l0]) ?_
    exact EvS.neg (by have := h.ge; omega) (EvS.now ⟨h8, fun j h0 h1 => by have := hs j h0 h1; simp [owed] at this; exact this, by simp [lentL] at ht; exact ht⟩)
  | cons y ys ih =>
    intro i s h h8 hs ht
    refine EvS.step (fun k => by rw [spec_OwedBy.l0]) ?_
    refine EvS.pos h.lt (EvS.pos h.nonneg ?_)
    rw [at_rdL h]
    have hy := hv.2.2 y h.mem
    have hb := owed_bound (y :: ys) (fun e he => hv.2.2 e (h.sub e he))
    have hbx := owed_bound xs hv.2.2
    have hyl : (y :: ys).length ≤ 16 := by have := h.len; have := h.nonneg; omega
    have g1 := hy.1
    have g2 := hy.2.1
    have b1 : -100000000 ≤ rd s y.f0 ∧ rd s y.f0 ≤ 100000000 := by have := hs y.f0 g1.1 g1.2; have := hb y.f0; have := hbx y.f0; omega
    refine EvS.pos g1.1 (EvS.pos (by omega) ?_)
    rw [w64 (x := rd s y.f0 + y.f1) (by omega) (by omega)]
    refine ih _ _ (h.wnext (by omega)) (by simpa using h8) (fun j h0 h1 => ?_) ?_
    · rw [rd_set _ _ _ _ g1.1 (by omega) h0]
      have := hs j h0 h1
      simp only [owed] at this
      by_cases c : y.f0 = j
      · rw [if_pos c]; rw [if_pos c] at this; rw [c] at *; omega
      · rw [if_neg c]; rw [if_neg c] at this; omega
    · rw [tot_set _ _ _ g1.1 (by omega)]; simp only [lentL] at ht; omega
theorem spec_OwedBy_ok (xs : List S30) (hl : Sh xs) (m : Int) (h13 : 0 ≤ m ∧ m ≤ 1000) : EvS (fun k => spec_OwedBy.f k xs m) (fun r => if VLs xs m then Tab m (owed xs) (lentL xs) r else r = []) := by
  simp only [spec_OwedBy.f]
  refine EvS.bindv (spec_validLoans_ok xs hl m h13) ?_
  by_cases hv : VLs xs m
  · simp only [if_pos hv]
    have hm := hv.1
    exact EvS.pos (decide_eq_true hv) (EvS.pos (by omega) (EvS.pos (by omega) (spec_owed_l0 xs m hv xs 0 _ (At.zero xs) (by simp; omega) (fun j _ _ => by rw [rd_zeros]; omega) (by rw [tot_zeros]; omega))))
  · simp only [if_neg hv]
    exact EvS.neg (by simp [hv]) (EvS.now rfl)
/-! ## What an exact law asks of lists of numbers. -/
theorem toIntS_l0 (xs : List Int) (hl : xs.length ≤ 4000000) (ys : List Int) : ∀ (i : Int) (s : List Int), At xs i ys → s.length = xs.length → (∀ j : Int, 0 ≤ j → j < i → rd s j = rd xs j) → EvS (fun k => laws_toIntS.l0 k xs s i) (· = xs) := by
  induction ys with
  | nil =>
    intro i s h h1 h2
    have := h.ge
    refine EvS.step (fun k => by rw [laws_toIntS.l0]) ?_
    exact EvS.neg (by omega) (EvS.now (list_ext h1 (fun j j0 j1 => h2 j j0 (by omega))))
  | cons y ys ih =>
    intro i s h h1 h2
    have g1 := h.lt
    have g2 := h.nonneg
    refine EvS.step (fun k => by rw [laws_toIntS.l0]) ?_
    refine EvS.pos h.lt (EvS.pos h.nonneg (EvS.pos (by omega) ?_))
    refine ih _ _ (h.wnext (by omega)) (by simpa using h1) (fun j j0 j1 => ?_)
    rw [w64 (by omega) (by omega)] at j1
    rw [rd_set _ _ _ _ g2 (by omega) j0]
    by_cases e : i = j
    · rw [if_pos e, e]
    · rw [if_neg e]; exact h2 j j0 (by omega)
theorem toIntS_ok (xs : List Int) (hl : xs.length ≤ 4000000) : EvS (fun k => laws_toIntS.f k xs) (· = xs) := by
  simp only [laws_toIntS.f]
  exact EvS.pos (by omega) (EvS.pos (by omega) (toIntS_l0 xs hl xs 0 _ (At.zero _) (by simp) (fun j j0 j1 => by omega)))
theorem eqIntS_l0 (xs : List Int) (hl : xs.length ≤ 4000000) (ys : List Int) : ∀ i : Int, At xs i ys → EvS (fun k => laws_eqIntS.l0 k xs xs i) (· = true) := by
  induction ys with
  | nil =>
    intro i h
    refine EvS.step (fun k => by rw [laws_eqIntS.l0]) ?_
    exact EvS.neg (by have := h.ge; omega) (EvS.now rfl)
  | cons y ys ih =>
    intro i h
    refine EvS.step (fun k => by rw [laws_eqIntS.l0]) ?_
    exact EvS.pos h.lt (EvS.pos h.nonneg (EvS.pos h.lt (EvS.pos (by simp) (ih _ (h.wnext (by omega))))))
theorem eqIntS_ok (xs : List Int) (hl : xs.length ≤ 4000000) : EvS (fun k => laws_eqIntS.f k xs xs) (· = true) := by
  simp only [laws_eqIntS.f]
  exact EvS.pos (by trivial) (eqIntS_l0 xs hl xs 0 (At.zero xs))
structure Marked (k : Int) (n : Nat) (m : List Int) : Prop where
  len : m.length = n
  val : ∀ j : Int, 0 ≤ j → j < n → rd m j = k + j
theorem markIntS_l0 (n : Nat) (hn : n ≤ 4000000) (k0 : Int) (h0 : 0 ≤ k0) (h1 : k0 ≤ 1152921504606846976) (d : Nat) : ∀ (i : Int) (m : List Int), i + d = n → 0 ≤ i → m.length = n → (∀ j : Int, 0 ≤ j → j < i → rd m j = k0 + j) →
    EvS (fun k => laws_markIntS.l0 k m (k0 + i) i) (fun r => r.1 = k0 + n ∧ Marked k0 n r.2) := by
  induction d with
  | zero =>
    intro i m e1 e2 e3 e4
    refine EvS.step (fun k => by rw [laws_markIntS.l0]) ?_
    exact EvS.neg (by omega) (EvS.now ⟨by dsimp only; omega, e3, fun j j0 j1 => e4 j j0 (by omega)⟩)
  | succ d ih =>
    intro i m e1 e2 e3 e4
    refine EvS.step (fun k => by rw [laws_markIntS.l0]) ?_
    refine EvS.pos (by omega) (EvS.pos e2 ?_)
    rw [w64 (x := k0 + i + 1) (by omega) (by omega), w64 (x := i + 1) (by omega) (by omega), show k0 + i + 1 = k0 + (i + 1) by omega]
    refine ih _ _ (by omega) (by omega) (by simpa using e3) (fun j j0 j1 => ?_)
    rw [rd_set _ _ _ _ e2 (by omega) j0]
    by_cases e : i = j
    · rw [if_pos e, e]
    · rw [if_neg e]; exact e4 j j0 (by omega)
theorem markIntS_ok (xs : List Int) (hl : xs.length ≤ 4000000) (k0 : Int) (h0 : 0 ≤ k0) (h1 : k0 ≤ 1152921504606846976) : EvS (fun k => laws_markIntS.f k xs k0) (fun r => r.1 = k0 + xs.length ∧ Marked k0 xs.length r.2) := by
  simp only [laws_markIntS.f]
  have := markIntS_l0 xs.length hl k0 h0 h1 xs.length 0 xs (by omega) (by omega) rfl (fun j j0 j1 => by omega)
  rw [show k0 + 0 = k0 by omega] at this
  exact this
theorem heldIntS_l0 (n : Nat) (hn : n ≤ 4000000) (k0 : Int) (h0 : 0 ≤ k0) (h1 : k0 ≤ 1152921504606846976) (m : List Int) (hm : Marked k0 n m) (d : Nat) : ∀ i : Int, i + d = n → 0 ≤ i → EvS (fun k => laws_heldIntS.l0 k m (k0 + i) i) (· = k0 + n) := by
  have e3 := hm.len
  induction d with
  | zero =>
    intro i e1 e2
    refine EvS.step (fun k => by rw [laws_heldIntS.l0]) ?_
    exact EvS.neg (by omega) (EvS.now (by omega))
  | succ d ih =>
    intro i e1 e2
    refine EvS.step (fun k => by rw [laws_heldIntS.l0]) ?_
    refine EvS.pos (by omega) (EvS.pos e2 (EvS.pos (hm.val i e2 (by omega)) ?_))
    rw [w64 (x := k0 + i + 1) (by omega) (by omega), w64 (x := i + 1) (by omega) (by omega), show k0 + i + 1 = k0 + (i + 1) by omega]
    exact ih _ (by omega) (by omega)
theorem heldIntS_ok (n : Nat) (hn : n ≤ 4000000) (k0 : Int) (h0 : 0 ≤ k0) (h1 : k0 ≤ 1152921504606846976) (m : List Int) (hm : Marked k0 n m) : EvS (fun k => laws_heldIntS.f k m k0) (· = k0 + n) := by
  simp only [laws_heldIntS.f]
  have := heldIntS_l0 n hn k0 h0 h1 m hm n 0 (by omega) (by omega)
  rw [show k0 + 0 = k0 by omega] at this
  exact this
/-! ## What an exact law asks of lists of loans. -/
def cvLoan (x : S49) : S30 := ⟨x.f0, x.f1, x.f2⟩
theorem at_rdLaw {xs ys : List S49} {i : Int} {y : S49} (h : At xs i (y :: ys)) : rd_T49 xs i = y := h.getD _
theorem rdLoan_set (xs : List S30) (i j : Int) (v : S30) (h0 : 0 ≤ i) (h1 : i < xs.length) (h2 : 0 ≤ j) : rd_T30 (xs.set i.toNat v) j = if i = j then v else rd_T30 xs j := by
  unfold rd_T30
  rw [List.getD_eq_getElem?_getD, List.getElem?_set]
  by_cases c : i = j
  · subst c; rw [if_pos rfl, if_pos (by omega), if_pos rfl]; rfl
  · rw [if_neg (by omega), if_neg c, List.getD_eq_getElem?_getD]
theorem listLoan_ext {xs ys : List S30} (hl : xs.length = ys.length) (h : ∀ i : Int, 0 ≤ i → i < xs.length → rd_T30 xs i = rd_T30 ys i) : xs = ys := by
  apply List.ext_getElem hl
  intro n h1 h2
  have := h n (by omega) (by omega)
  unfold rd_T30 at this
  simp only [Int.toNat_natCast] at this
  rw [List.getD_eq_getElem?_getD, List.getD_eq_getElem?_getD, List.getElem?_eq_getElem h1, List.getElem?_eq_getElem h2] at this
  exact this
theorem rdLoan_map (xs : List S49) (i : Int) (h0 : 0 ≤ i) (h1 : i < xs.length) : rd_T30 (xs.map cvLoan) i = cvLoan (rd_T49 xs i) := by
  unfold rd_T30 rd_T49
  rw [List.getD_eq_getElem?_getD, List.getD_eq_getElem?_getD, List.getElem?_map, List.getElem?_eq_getElem (show i.toNat < xs.length by omega)]
  rfl
def ShW1 (xs : List S49) : Prop := xs.length ≤ 1048576 ∧ ∀ x ∈ xs, x.f2.length ≤ 1048576
theorem szLoanS_l0 (xs : List S49) (hx : xs.length ≤ 1048576) (hr : ∀ r ∈ xs, r.f2.length ≤ 9223372036854775807) (ys : List S49) : ∀ (i c : Int), At xs i ys → 0 ≤ c → c ≤ 1048576 → EvS (fun k => laws_szLoanS.l0 k xs c i) (fun t => t < 0 ∨ ∀ r ∈ ys, r.f2.length ≤ 1048576) := by
  induction ys with
  | nil =>
    intro i c h h0 h1
    refine EvS.step (fun k => by rw [laws_szLoanS.l0]) ?_
    exact EvS.neg (by have := h.ge; omega) (EvS.now (.inr (by simp)))
  | cons y ys ih =>
    intro i c h h0 h1
    have hy := hr y h.mem
    refine EvS.step (fun k => by rw [laws_szLoanS.l0]) ?_
    refine EvS.pos h.lt (EvS.pos h.nonneg ?_)
    rw [at_rdLaw h]
    simp only [laws_szLoan.f, laws_szIntS.f]
    rw [w64 (x := c - (y.f2.length : Int)) (by omega) (by omega)]
    by_cases g : c - (y.f2.length : Int) < 0
    · simp only [if_pos g, Option.bind_some]
      exact EvS.onsome (EvS.pos (by omega) (EvS.now (.inl (by omega))))
    · simp only [if_neg g, Option.bind_some]
      refine EvS.mono (ih _ _ (h.wnext (by omega)) (by omega) (by omega)) (fun t ht => ht.imp id (fun q r hrr => ?_))
      rcases List.mem_cons.1 hrr with rfl | hrr
      · omega
      · exact q r hrr
theorem szLoanS_ok (xs : List S49) (hx : xs.length ≤ 9223372036854775807) (hr : ∀ r ∈ xs, r.f2.length ≤ 9223372036854775807) : EvS (fun k => laws_szLoanS.f k xs 1048576) (fun t => t < 0 ∨ ShW1 xs) := by
  simp only [laws_szLoanS.f]
  rw [w64 (x := 1048576 - (xs.length : Int)) (by omega) (by omega)]
  refine EvS.ite (fun _ => EvS.now (.inl (by omega))) (fun c => EvS.mono (szLoanS_l0 xs (by omega) hr xs 0 _ (At.zero _) (by omega) (by omega)) (fun t ht => ht.imp id (fun q => ⟨by omega, q⟩)))
theorem sh_cv {xs : List S49} (h : ShW1 xs) : Sh (xs.map cvLoan) := by
  have h1 := h.1
  refine ⟨by rw [List.length_map]; omega, fun e he => ?_⟩
  obtain ⟨x, hx, rfl⟩ := List.mem_map.1 he
  have := h.2 x hx
  show x.f2.length ≤ _
  omega
theorem toLoanS_l0 (xs : List S49) (hl : ShW1 xs) (ys : List S49) : ∀ (i : Int) (s : List S30), At xs i ys → s.length = xs.length → (∀ j : Int, 0 ≤ j → j < i → rd_T30 s j = cvLoan (rd_T49 xs j)) → EvS (fun k => laws_toLoanS.l0 k xs s i) (· = xs.map cvLoan) := by
  have hxl := hl.1
  induction ys with
  | nil =>
    intro i s h h1 h2
    have := h.ge
    refine EvS.step (fun k => by rw [laws_toLoanS.l0]) ?_
    exact EvS.neg (by omega) (EvS.now (listLoan_ext (by rw [List.length_map, h1]) (fun j j0 j1 => by rw [h2 j j0 (by omega), rdLoan_map xs j j0 (by omega)])))
  | cons y ys ih =>
    intro i s h h1 h2
    have g1 := h.lt
    have g2 := h.nonneg
    have hy := hl.2 y h.mem
    refine EvS.step (fun k => by rw [laws_toLoanS.l0]) ?_
    refine EvS.pos h.lt (EvS.pos h.nonneg ?_)
    rw [at_rdLaw h]
    have ht : EvS (fun k => laws_toLoan.f k y.f0 y.f1 y.f2) (· = (y.f0, y.f1, y.f2)) := by
      simp only [laws_toLoan.f]
      exact EvS.bindv (toIntS_ok y.f2 (by omega)) (EvS.now rfl)
    refine EvS.bindv ht (EvS.pos (by omega) ?_)
    rw [w64 (x := i + 1) (by omega) (by omega)]
    refine ih _ _ h.next (by simpa using h1) (fun j j0 j1 => ?_)
    rw [rdLoan_set _ _ _ _ g2 (by omega) j0]
    by_cases e : i = j
    · subst e; rw [if_pos rfl, at_rdLaw h]; rfl
    · rw [if_neg e]; exact h2 j j0 (by omega)
theorem toLoanS_ok (xs : List S49) (hl : ShW1 xs) : EvS (fun k => laws_toLoanS.f k xs) (· = xs.map cvLoan) := by
  have hxl := hl.1
  simp only [laws_toLoanS.f]
  exact EvS.pos (by omega) (EvS.pos (by omega) (toLoanS_l0 xs hl xs 0 _ (At.zero _) (by simp) (fun j j0 j1 => by omega)))
theorem eqLoanS_l0 (xs : List S30) (hl : Sh xs) (ys : List S30) : ∀ i : Int, At xs i ys → EvS (fun k => laws_eqLoanS.l0 k xs xs i) (· = true) := by
  have hxl := hl.1
  induction ys with
  | nil =>
    intro i h
    refine EvS.step (fun k => by rw [laws_eqLoanS.l0]) ?_
    exact EvS.neg (by have := h.ge; omega) (EvS.now rfl)
  | cons y ys ih =>
    intro i h
    have hy := hl.2 y h.mem
    refine EvS.step (fun k => by rw [laws_eqLoanS.l0]) ?_
    refine EvS.pos h.lt (EvS.pos h.nonneg (EvS.pos h.lt ?_))
    rw [at_rdL h]
    have he : EvS (fun k => laws_eqLoan.f k y.f0 y.f1 y.f2 y.f0 y.f1 y.f2) (· = true) := by
      simp only [laws_eqLoan.f]
      exact EvS.pos (by trivial) (EvS.pos (by trivial) (EvS.bindv (eqIntS_ok y.f2 (by omega)) (EvS.pos rfl (EvS.now rfl))))
    exact EvS.bindv he (EvS.pos rfl (ih _ (h.wnext (by omega))))
theorem eqLoanS_ok (xs : List S30) (hl : Sh xs) : EvS (fun k => laws_eqLoanS.f k xs xs) (· = true) := by
  simp only [laws_eqLoanS.f]
  exact EvS.pos (by trivial) (eqLoanS_l0 xs hl xs 0 (At.zero xs))
theorem spec_OwedBy_all (xs : List S30) (hl : Sh xs) (m : Int) : EvS (fun k => spec_OwedBy.f k xs m) (fun r => if VLs xs m then Tab m (owed xs) (lentL xs) r else r = []) := by
  by_cases c : 1 ≤ m ∧ m ≤ 12
  · exact spec_OwedBy_ok xs hl m (by omega)
  · have hv : ¬ VLs xs m := fun g => c g.1
    simp only [spec_OwedBy.f, if_neg hv]
    exact EvS.bindv (spec_validLoans_all xs hl m) (EvS.neg (by simp [hv]) (EvS.now rfl))
theorem markLoanS_l0 (xs : List S30) (hl : Sh xs) (ys : List S30) : ∀ i c : Int, At xs i ys → 0 ≤ c → c ≤ 1 + 2000002 * i → EvS (fun k => laws_markLoanS.l0 k xs c i) (fun r => 0 ≤ r) := by
  have hxl := hl.1
  induction ys with
  | nil =>
    intro i c h h0 h1
    refine EvS.step (fun k => by rw [laws_markLoanS.l0]) ?_
    exact EvS.neg (by have := h.ge; omega) (EvS.now h0)
  | cons y ys ih =>
    intro i c h h0 h1
    have hy := hl.2 y h.mem
    have i0 := h.nonneg
    have i1 := h.lt
    refine EvS.step (fun k => by rw [laws_markLoanS.l0]) ?_
    rw [at_rdL h, w64 (x := c + 1) (by omega) (by omega), w64 (x := c + 1 + 1) (by omega) (by omega), w64 (x := i + 1) (by omega) (by omega)]
    refine EvS.pos i1 (EvS.pos i0 (EvS.bind (markIntS_ok y.f2 (by omega) (c + 1 + 1) (by omega) (by omega)) (fun r hr => ?_)))
    have e := hr.1
    exact ih _ _ h.next (by omega) (by omega)
theorem markLoanS_ok (xs : List S30) (hl : Sh xs) : EvS (fun k => laws_markLoanS.f k xs 1) (fun r => 0 ≤ r) := by
  simp only [laws_markLoanS.f]
  exact markLoanS_l0 xs hl xs 0 1 (At.zero _) (by omega) (by omega)
def G49 (x : S49) : Prop := ((Lit.int .i64 x.f0).wf = true) ∧ ((Lit.int .i64 x.f1).wf = true) ∧ (x.f2.length ≤ 9223372036854775807 ∧ ∀ y0 ∈ x.f2, (Lit.int .i64 y0).wf = true)
theorem FnExactOwedBy (l0 : List S49) (g0 : l0.length ≤ 9223372036854775807 ∧ ∀ y0 ∈ l0, G49 y0) (a1 : Int) (g1 : (Lit.int .i64 a1).wf = true) : ∃ k, laws_FnExactOwedBy.f k l0 a1 = some true := by
  refine EvS.holds ?_
  simp only [laws_FnExactOwedBy.f]
  refine EvS.bind (szLoanS_ok l0 g0.1 (fun r hr => (g0.2 r hr).2.2.1)) (fun t ht => EvS.ite (fun _ => EvS.now rfl) (fun c => ?_))
  have hl : ShW1 l0 := by
    rcases ht with g | g
    · exact absurd g c
    · exact g
  have hs := sh_cv hl
  have hto := toLoanS_ok l0 hl
  generalize l0.map cvLoan = L at hs hto
  refine EvS.bindv hto (EvS.bind (spec_OwedBy_all L hs a1) (fun r2 hr2 => EvS.bindv hto (EvS.bind (impl_OwedBy_ok L hs a1) (fun r1 hr1 => ?_))))
  have same : ∀ a b : List Int, (if VLs L a1 then Tab a1 (owed L) (lentL L) a else a = []) → (if VLs L a1 then Tab a1 (owed L) (lentL L) b else b = []) → a = b := by
    intro a b ha hb
    by_cases hv : VLs L a1
    · simp only [if_pos hv] at ha hb; exact ha.eq hb
    · simp only [if_neg hv] at ha hb; rw [ha, hb]
  obtain rfl := same _ _ hr1 hr2
  have hlen : r1.length ≤ 12 := by
    by_cases hv : VLs L a1
    · simp only [if_pos hv] at hr1; have := hr1.len; have := hv.1; omega
    · simp only [if_neg hv] at hr1; rw [hr1]; simp
  have he := eqIntS_ok r1 (by omega)
  refine EvS.bindv he (EvS.pos rfl (EvS.bindv hto (EvS.bindv (eqLoanS_ok _ hs) (EvS.pos rfl (EvS.bind (markLoanS_ok L hs) (fun m0 hm0 => EvS.neg (by omega) (EvS.bindv he ?_)))))))
  refine EvS.step (fun k => by rw [laws_FnExactOwedBy.j0]) ?_
  refine EvS.neg (by simp) (EvS.bind (markIntS_ok r1 (by omega) 1 (by omega) (by omega)) (fun m hm => ?_))
  have hd := heldIntS_ok r1.length (by omega) 1 (by omega) (by omega) m.2 hm.2
  rw [← hm.1] at hd
  have e3 := hm.1
  refine EvS.bindv hd (EvS.neg (by omega) (EvS.pos rfl (EvS.bindv hto (EvS.bind (impl_OwedBy_ok L hs a1) (fun r3 hr3 => ?_)))))
  obtain rfl := same _ _ hr3 hr2
  exact EvS.bindv he (EvS.pos rfl (EvS.bindv hd (EvS.neg (by omega) (EvS.pos rfl (EvS.now rfl)))))
end Go.Proofs.Ytehomgbacebgeaa.Pure
