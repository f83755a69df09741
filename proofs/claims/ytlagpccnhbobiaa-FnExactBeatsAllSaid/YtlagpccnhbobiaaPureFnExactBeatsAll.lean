/- BeatsAll is what the reference tells, for every ranking. -/
import Derived.Test.YtlagpccnhbobiaaPFnExactBeatsAllx0
import Derived.Test.YtlagpccnhbobiaaMFnExactBeatsAllx1
import Derived.Test.YtlagpccnhbobiaaMFnExactBeatsAllx2
import Derived.Test.YtlagpccnhbobiaaMFnExactBeatsAllx3
import Derived.Test.YtlagpccnhbobiaaMFnExactBeatsAllx4
import Derived.Test.YtlagpccnhbobiaaBase
set_option linter.unusedVariables false
set_option linter.unusedSimpArgs false
namespace Go.Proofs.Ytlagpccnhbobiaa.Pure
open Go.RowKit Go.Proofs.Ytlagpccnhbobiaa.PFnExactBeatsAll Go.Proofs.YtlagpccnhbobiaaW.PrintWords Go.Proofs.YtlagpccnhbobiaaW.PrintLast Go.Proofs.YtlagpccnhbobiaaW.PrintMore Go.Proofs.Ytlagpccnhbobiaa.Base
theorem u8_range {x : Int} (h : (Lit.int .u8 x).wf = true) : 0 ≤ x ∧ x ≤ 255 := by
  simp [Lit.wf, IntKind.min, IntKind.max, IntKind.bits, IntKind.signed] at h
  omega
/-! ## Lists of numbers. -/
theorem inRange_eq (n lo hi : Int) : spec_inRange.f n lo hi = some (decide (lo ≤ n ∧ n ≤ hi)) := by
  unfold spec_inRange.f
  split
  · exact congrArg some (decide_eq_decide.2 (by omega))
  · exact congrArg some (decide_eq_false (by omega)).symm
def AllW (xs : List Int) (lo hi : Int) : Prop := ∀ x ∈ xs, lo ≤ x ∧ x ≤ hi
instance (xs : List Int) (lo hi : Int) : Decidable (AllW xs lo hi) := by unfold AllW; infer_instance
theorem allW_cons (y : Int) (ys : List Int) (lo hi : Int) : AllW (y :: ys) lo hi ↔ (lo ≤ y ∧ y ≤ hi) ∧ AllW ys lo hi := by
  unfold AllW; simp
/-- The first place of a number, counted from i on; -1 if it is not there. -/
def posF (v : Int) : Int → List Int → Int
  | _, [] => -1
  | i, x :: xs => if x = v then i else posF v (i + 1) xs
theorem posF_range (v : Int) (xs : List Int) : ∀ i : Int, 0 ≤ i → (v ∈ xs → i ≤ posF v i xs ∧ posF v i xs < i + xs.length) ∧ (v ∉ xs → posF v i xs = -1) := by
  induction xs with
  | nil => intro i h0; exact ⟨fun h => by simp at h, fun _ => rfl⟩
  | cons x xs ih =>
    intro i h0
    have h := ih (i + 1) (by omega)
    simp only [posF, List.length_cons]
    by_cases c : x = v
    · rw [if_pos c]; exact ⟨fun _ => by omega, fun g => absurd (by simp [c]) g⟩
    · rw [if_neg c]
      refine ⟨fun g => ?_, fun g => h.2 (fun g2 => g (List.mem_cons_of_mem _ g2))⟩
      have := h.1 ((List.mem_cons.1 g).resolve_left (fun e => c e.symm))
      omega
theorem posF_nonneg (v : Int) (xs : List Int) (i : Int) (h : 0 ≤ i) : (0 ≤ posF v i xs) ↔ v ∈ xs := by
  by_cases c : v ∈ xs
  · have := (posF_range v xs i h).1 c; exact ⟨fun _ => c, fun _ => by omega⟩
  · have := (posF_range v xs i h).2 c; exact ⟨fun g => by omega, fun g => absurd g c⟩
theorem placeIn_l0 (xs : List Int) (hl : xs.length ≤ 1099511627776) (v : Int) (ys : List Int) : ∀ i : Int, At xs i ys → EvS (fun k => spec_placeIn.l0 k xs v i) (· = posF v i ys) := by
  induction ys with
  | nil =>
    intro i h
    refine EvS.step (fun k => by rw [spec_placeIn.l0]) ?_
    exact EvS.neg (by have := h.ge; omega) (EvS.now rfl)
  | cons y ys ih =>
    intro i h
    have h1 := h.lt
    have h2 := h.nonneg
    have hw : wrap64 (i + 1) = i + 1 := w64 (by omega) (by omega)
    refine EvS.step (fun k => by rw [spec_placeIn.l0]) ?_
    refine EvS.pos h.lt (EvS.pos h.nonneg ?_)
    rw [At.rd h, hw, posF]
    by_cases c : y = v
    · rw [if_pos c]; exact EvS.pos c (EvS.now rfl)
    · rw [if_neg c]; exact EvS.neg c (ih _ h.next)
theorem placeIn_ok (xs : List Int) (hl : xs.length ≤ 1099511627776) (v : Int) : EvS (fun k => spec_placeIn.f k xs v) (· = posF v 0 xs) := by
  simp only [spec_placeIn.f]
  exact placeIn_l0 xs hl v xs 0 (At.zero xs)
theorem index_l0 (xs : List Int) (hl : xs.length ≤ 1099511627776) (v : Int) (ys : List Int) : ∀ i : Int, At xs i ys → EvS (fun k => slices_Index_int_int.l0 k xs v xs.length i) (· = posF v i ys) := by
  induction ys with
  | nil =>
    intro i h
    refine EvS.step (fun k => by rw [slices_Index_int_int.l0]) ?_
    exact EvS.neg (by have := h.ge; omega) (EvS.now rfl)
  | cons y ys ih =>
    intro i h
    have h1 := h.lt
    have h2 := h.nonneg
    have hw : wrap64 (i + 1) = i + 1 := w64 (by omega) (by omega)
    refine EvS.step (fun k => by rw [slices_Index_int_int.l0]) ?_
    refine EvS.pos h.lt (EvS.pos h.nonneg (EvS.pos h.lt ?_))
    rw [At.rd h, hw, posF]
    by_cases c : y = v
    · rw [if_pos c]; exact EvS.pos c.symm (EvS.now rfl)
    · rw [if_neg c]; exact EvS.neg (fun g => c g.symm) (ih _ h.next)
theorem index_ok (xs : List Int) (hl : xs.length ≤ 1099511627776) (v : Int) : EvS (fun k => slices_Index_int_int.f k xs v) (· = posF v 0 xs) := by
  simp only [slices_Index_int_int.f]
  exact index_l0 xs hl v xs 0 (At.zero xs)
/-- Different numbers from 0 to n - 1. -/
def Diff (xs : List Int) (n : Int) : Prop := xs.Nodup ∧ ∀ x ∈ xs, 0 ≤ x ∧ x < n
instance (xs : List Int) (n : Int) : Decidable (Diff xs n) := by unfold Diff; infer_instance
def DiffF (pre ys : List Int) (n : Int) : Prop := ys.Nodup ∧ ∀ y ∈ ys, 0 ≤ y ∧ y < n ∧ y ∉ pre
instance (pre ys : List Int) (n : Int) : Decidable (DiffF pre ys n) := by unfold DiffF; infer_instance
theorem diffF_cons (pre : List Int) (y : Int) (ys : List Int) (n : Int) : DiffF pre (y :: ys) n ↔ (0 ≤ y ∧ y < n ∧ y ∉ pre) ∧ DiffF (y :: pre) ys n := by
  unfold DiffF
  constructor
  · rintro ⟨h1, h2⟩
    have h1 := List.nodup_cons.1 h1
    refine ⟨h2 y List.mem_cons_self, h1.2, fun z hz => ?_⟩
    have := h2 z (List.mem_cons_of_mem _ hz)
    refine ⟨this.1, this.2.1, fun hm => ?_⟩
    rcases List.mem_cons.1 hm with rfl | hm
    · exact h1.1 hz
    · exact this.2.2 hm
  · rintro ⟨h1, h2, h3⟩
    refine ⟨List.nodup_cons.2 ⟨fun hm => (h3 y hm).2.2 List.mem_cons_self, h2⟩, fun z hz => ?_⟩
    rcases List.mem_cons.1 hz with rfl | hz
    · exact h1
    · have := h3 z hz
      exact ⟨this.1, this.2.1, fun hm => this.2.2 (List.mem_cons_of_mem _ hm)⟩
theorem diffF_congr {p q ys : List Int} {n : Int} (h : ∀ x, x ∈ p ↔ x ∈ q) : DiffF p ys n ↔ DiffF q ys n := by
  unfold DiffF
  simp only [h]
theorem diffF_nil (xs : List Int) (n : Int) : DiffF [] xs n ↔ Diff xs n := by
  unfold DiffF Diff; simp
theorem diff_len {xs : List Int} {n : Int} (h : Diff xs n) : (xs.length : Int) ≤ n ∨ xs = [] := by
  rcases xs with _ | ⟨x, xs⟩
  · exact .inr rfl
  · left
    have h1 : 0 ≤ n := by have := h.2 x List.mem_cons_self; omega
    have h2 : (x :: xs) ⊆ (List.range n.toNat).map (fun m : Nat => (m : Int)) := by
      intro y hy
      have := h.2 y hy
      exact List.mem_map.2 ⟨y.toNat, List.mem_range.2 (by omega), by omega⟩
    have h3 := h.1.length_le_of_subset h2
    rw [List.length_map, List.length_range] at h3
    omega
theorem differentBelow_l0 (xs : List Int) (hl : xs.length ≤ 1099511627776) (n : Int) (ys : List Int) : ∀ (i : Int) (seen : List Bool) (pre : List Int), At xs i ys → (seen.length : Int) = n → (∀ v : Int, 0 ≤ v → v < n → (rdOf false seen v = true ↔ v ∈ pre)) →
    EvS (fun k => impl_differentBelow.l0 k n seen xs xs.length i) (· = decide (DiffF pre ys n)) := by
  induction ys with
  | nil =>
    intro i seen pre h hs hv
    refine EvS.step (fun k => by rw [impl_differentBelow.l0]) ?_
    exact EvS.neg (by have := h.ge; omega) (EvS.now (by simp [DiffF]))
  | cons y ys ih =>
    intro i seen pre h hs hv
    refine EvS.step (fun k => by rw [impl_differentBelow.l0]) ?_
    refine EvS.pos h.lt (EvS.pos h.nonneg (EvS.pos h.lt ?_))
    rw [At.rd h]
    refine EvS.ite (fun c => EvS.now (decide_eq_false (fun g => by have := ((diffF_cons _ _ _ _).1 g).1; omega)).symm) (fun c1 => EvS.ite (fun c => EvS.now (decide_eq_false (fun g => by have := ((diffF_cons _ _ _ _).1 g).1; omega)).symm) (fun c2 => EvS.pos (by omega) (EvS.pos (by omega) ?_)))
    have hy := hv y (by omega) (by omega)
    refine EvS.ite (fun c => EvS.now (decide_eq_false (fun g => ((diffF_cons _ _ _ _).1 g).1.2.2 (hy.1 c))).symm) (fun c3 => ?_)
    refine EvS.mono (ih _ (seen.set y.toNat true) (y :: pre) (h.wnext (by omega)) (by simpa using hs) (fun v h0 h1 => ?_)) (fun r hr => ?_)
    · unfold rdOf
      rw [List.getD_eq_getElem?_getD, List.getElem?_set]
      by_cases e : y = v
      · subst e
        rw [if_pos rfl, if_pos (by omega)]
        exact ⟨fun _ => List.mem_cons_self, fun _ => rfl⟩
      · rw [if_neg (by omega)]
        have := hv v h0 h1
        unfold rdOf at this
        rw [List.getD_eq_getElem?_getD] at this
        rw [this, List.mem_cons]
        exact ⟨fun g => .inr g, fun g => g.resolve_left (fun e2 => e e2.symm)⟩
    · rw [hr]
      exact decide_eq_decide.2 ⟨fun g => (diffF_cons _ _ _ _).2 ⟨⟨by omega, by omega, fun hm => c3 (hy.2 hm)⟩, g⟩, fun g => ((diffF_cons _ _ _ _).1 g).2⟩
theorem differentBelow_ok (xs : List Int) (hl : xs.length ≤ 1099511627776) (n : Int) (hn : n ≤ 1099511627776) (h0 : 0 ≤ n) : EvS (fun k => impl_differentBelow.f k xs n) (· = decide (Diff xs n)) := by
  simp only [impl_differentBelow.f]
  refine EvS.ite (fun c => EvS.now (decide_eq_false (fun g => ?_)).symm) (fun c => EvS.pos h0 (EvS.pos (by omega) ?_))
  · rcases diff_len g with h | h
    · omega
    · subst h; simp at c; omega
  · refine EvS.mono (differentBelow_l0 xs hl n xs 0 _ [] (At.zero xs) (by simp; omega) (fun v _ _ => ?_)) (fun r hr => ?_)
    · unfold rdOf
      rw [List.getD_eq_getElem?_getD, List.getElem?_replicate]
      split <;> simp
    · rw [hr]
      exact decide_eq_decide.2 (diffF_nil xs n)
theorem validMembers_l0 (xs : List Int) (hl : xs.length ≤ 1099511627776) (n : Int) (hn : n ≤ 1099511627776) (h0 : 0 ≤ n) (ys : List Int) : ∀ i : Int, At xs i ys → EvS (fun k => spec_validMembers.l0 k xs n i) (· = decide (DiffF (xs.take i.toNat) ys n)) := by
  induction ys with
  | nil =>
    intro i h
    refine EvS.step (fun k => by rw [spec_validMembers.l0]) ?_
    exact EvS.neg (by have := h.ge; omega) (EvS.now (by simp [DiffF]))
  | cons y ys ih =>
    intro i h
    have h1 := h.lt
    have h2 := h.nonneg
    have hw : wrap64 (i + 1) = i + 1 := w64 (by omega) (by omega)
    refine EvS.step (fun k => by rw [spec_validMembers.l0]) ?_
    refine EvS.pos h.lt (EvS.pos h.nonneg ?_)
    rw [At.rd h, hw, w64 (x := n - 1) (by omega) (by omega)]
    refine EvS.call (inRange_eq _ _ _) (EvS.ite (fun c => EvS.pos (by omega) ?_) (fun c => EvS.now ?_))
    · have c := of_decide_eq_true c
      refine EvS.bindv (placeIn_ok _ (by rw [List.length_take]; omega) y) ?_
      have hp := posF_nonneg y (xs.take i.toNat) 0 (by omega)
      refine EvS.ite (fun g => EvS.now (decide_eq_false (fun g2 => ((diffF_cons _ _ _ _).1 g2).1.2.2 (hp.1 g))).symm) (fun g => ?_)
      refine EvS.mono (ih _ h.next) (fun r hr => ?_)
      rw [hr]
      refine decide_eq_decide.2 (Iff.trans (diffF_congr (q := y :: xs.take i.toNat) (fun x => ?_)) ⟨fun g2 => (diffF_cons _ _ _ _).2 ⟨⟨c.1, by omega, fun hm => g (hp.2 hm)⟩, g2⟩, fun g2 => ((diffF_cons _ _ _ _).1 g2).2⟩)
      simp only [h.take, List.mem_append, List.mem_cons, List.not_mem_nil, or_false]
      exact or_comm
    · have c := ndec c
      exact (decide_eq_false (fun g => c (by have := ((diffF_cons _ _ _ _).1 g).1; omega))).symm
theorem validMembers_ok (xs : List Int) (hl : xs.length ≤ 1099511627776) (n : Int) (hn : n ≤ 1099511627776) (h0 : 0 ≤ n) : EvS (fun k => spec_validMembers.f k xs n) (· = decide (Diff xs n)) := by
  simp only [spec_validMembers.f]
  refine EvS.mono (validMembers_l0 xs hl n hn h0 xs 0 (At.zero xs)) (fun r hr => ?_)
  rw [hr]
  exact decide_eq_decide.2 (diffF_nil xs n)
/-! ## Amounts divided into equal parts. -/
theorem list_ext {xs ys : List Int} (hl : xs.length = ys.length) (h : ∀ i : Int, 0 ≤ i → i < xs.length → rd xs i = rd ys i) : xs = ys := by
  apply List.ext_getElem hl
  intro n h1 h2
  have := h n (by omega) (by omega)
  unfold rd at this
  simp only [Int.toNat_natCast] at this
  rw [List.getD_eq_getElem?_getD, List.getD_eq_getElem?_getD, List.getElem?_eq_getElem h1, List.getElem?_eq_getElem h2] at this
  exact this
theorem rd_set (xs : List Int) (i j v : Int) (h0 : 0 ≤ i) (h1 : i < xs.length) (h2 : 0 ≤ j) : rd (xs.set i.toNat v) j = if i = j then v else rd xs j := by
  unfold rd
  rw [List.getD_eq_getElem?_getD, List.getElem?_set]
  by_cases c : i = j
  · subst c; rw [if_pos rfl, if_pos (by omega), if_pos rfl]; rfl
  · rw [if_neg (by omega), if_neg c, List.getD_eq_getElem?_getD]
theorem rd_zeros (n : Nat) (j : Int) : rd (List.replicate n 0) j = 0 := by
  unfold rd
  rw [List.getD_eq_getElem?_getD, List.getElem?_replicate]
  split <;> rfl
theorem rd_snoc (xs : List Int) (v j : Int) (h0 : 0 ≤ j) : rd (xs ++ [v]) j = if j < xs.length then rd xs j else if j = xs.length then v else 0 := by
  unfold rd
  rw [List.getD_eq_getElem?_getD, List.getD_eq_getElem?_getD]
  by_cases c : j < xs.length
  · rw [if_pos c, List.getElem?_append_left (by omega)]
  · rw [if_neg c, List.getElem?_append_right (by omega)]
    by_cases c2 : j = xs.length
    · rw [if_pos c2, c2]; simp
    · rw [if_neg c2, List.getElem?_eq_none (by simp; omega)]; rfl
/-! ## What an exact law asks of lists of numbers. -/
theorem toIntS_l0 (xs : List Int) (hl : xs.length ≤ 4000000) (ys : List Int) : ∀ (i : Int) (s : List Int), At xs i ys → s.length = xs.length → (∀ j : Int, 0 ≤ j → j < i → rd s j = rd xs j) → EvS (fun k => laws_toIntS.l0 k xs s i) (· = xs) := by
  induction ys with
  | nil =>
    intro i s h h1 h2
    have := h.ge
    refine EvS.step (fun k => by rw [laws_toIntS.l0]) ?_
    exact EvS.neg (by omega) (EvS.now (list_ext h1 (fun j j0 j1 => h2 j j0 (by omega))))
  | cons y ys ih =>
    intro i s h h1 h2
    have g1 := h.lt
    have g2 := h.nonneg
    refine EvS.step (fun k => by rw [laws_toIntS.l0]) ?_
    refine EvS.pos h.lt (EvS.pos h.nonneg (EvS.pos (by omega) ?_))
    refine ih _ _ (h.wnext (by omega)) (by simpa using h1) (fun j j0 j1 => ?_)
    rw [w64 (by omega) (by omega)] at j1
    rw [rd_set _ _ _ _ g2 (by omega) j0]
    by_cases e : i = j
    · rw [if_pos e, e]
    · rw [if_neg e]; exact h2 j j0 (by omega)
theorem toIntS_ok (xs : List Int) (hl : xs.length ≤ 4000000) : EvS (fun k => laws_toIntS.f k xs) (· = xs) := by
  simp only [laws_toIntS.f]
  exact EvS.pos (by omega) (EvS.pos (by omega) (toIntS_l0 xs hl xs 0 _ (At.zero _) (by simp) (fun j j0 j1 => by omega)))
theorem eqIntS_l0 (xs : List Int) (hl : xs.length ≤ 4000000) (ys : List Int) : ∀ i : Int, At xs i ys → EvS (fun k => laws_eqIntS.l0 k xs xs i) (· = true) := by
  induction ys with
  | nil =>
    intro i h
    refine EvS.step (fun k => by rw [laws_eqIntS.l0]) ?_
    exact EvS.neg (by have := h.ge; omega) (EvS.now rfl)
  | cons y ys ih =>
    intro i h
    refine EvS.step (fun k => by rw [laws_eqIntS.l0]) ?_
    exact EvS.pos h.lt (EvS.pos h.nonneg (EvS.pos h.lt (EvS.pos (by simp) (ih _ (h.wnext (by omega))))))
theorem eqIntS_ok (xs : List Int) (hl : xs.length ≤ 4000000) : EvS (fun k => laws_eqIntS.f k xs xs) (· = true) := by
  simp only [laws_eqIntS.f]
  exact EvS.pos (by trivial) (eqIntS_l0 xs hl xs 0 (At.zero xs))
/-! ## Rankings. -/
def rowN (xs : List (List Int)) : Int := ((rd_L1 xs 0).length : Int)
def VR (xs : List (List Int)) : Prop := (1 ≤ xs.length ∧ xs.length ≤ 12) ∧ (1 ≤ rowN xs ∧ rowN xs ≤ 6) ∧ ∀ r ∈ xs, (r.length : Int) = rowN xs ∧ Diff r (rowN xs)
instance (xs : List (List Int)) : Decidable (VR xs) := by unfold VR; infer_instance
def ShR (xs : List (List Int)) : Prop := xs.length ≤ 2000000 ∧ ∀ r ∈ xs, r.length ≤ 2000000
theorem at_rdR {xs ys : List (List Int)} {i : Int} {y : List Int} (h : At xs i (y :: ys)) : rd_L1 xs i = y := h.getD _
theorem all_cons {α : Type} {P : α → Prop} {y : α} {ys : List α} (h : P y) : (∀ e ∈ y :: ys, P e) ↔ ∀ e ∈ ys, P e :=
  ⟨fun g e he => g e (List.mem_cons_of_mem _ he), fun g e he => by rcases List.mem_cons.1 he with rfl | he; exact h; exact g e he⟩
theorem rowN_range {xs : List (List Int)} (h : ShR xs) : 0 ≤ rowN xs ∧ rowN xs ≤ 2000000 := by
  unfold rowN
  refine ⟨by omega, ?_⟩
  cases xs with
  | nil => show (([] : List Int).length : Int) ≤ 2000000; simp
  | cons r l => have := h.2 r List.mem_cons_self; show (r.length : Int) ≤ 2000000; omega
theorem impl_ValidRanks_l0 (xs : List (List Int)) (hl : ShR xs) (ys : List (List Int)) : ∀ i : Int, At xs i ys → EvS (fun k => impl_ValidRanks.l0 k (rowN xs) xs xs.length i) (· = decide (∀ r ∈ ys, (r.length : Int) = rowN xs ∧ Diff r (rowN xs))) := by
  have hxl := hl.1
  have hn := rowN_range hl
  induction ys with
  | nil =>
    intro i h
    refine EvS.step (fun k => by rw [impl_ValidRanks.l0]) ?_
    exact EvS.neg (by have := h.ge; omega) (EvS.now (by simp))
  | cons y ys ih =>
    intro i h
    have hy := hl.2 y h.mem
    refine EvS.step (fun k => by rw [impl_ValidRanks.l0]) ?_
    refine EvS.pos h.lt (EvS.pos h.nonneg (EvS.pos h.lt ?_))
    rw [at_rdR h]
    have no : ¬ ((y.length : Int) = rowN xs ∧ Diff y (rowN xs)) → false = decide (∀ r ∈ y :: ys, (r.length : Int) = rowN xs ∧ Diff r (rowN xs)) := fun g => (decide_eq_false (fun q => g (q y List.mem_cons_self))).symm
    refine EvS.ite (fun c1 => EvS.bindv (differentBelow_ok y (by omega) _ (by omega) (by omega)) (EvS.ite (fun c2 => ?_) (fun c2 => EvS.now (no (fun g => ndec c2 g.2))))) (fun c1 => EvS.now (no (fun g => c1 g.1)))
    refine EvS.mono (ih _ (h.wnext (by omega))) (fun r hr => ?_)
    rw [hr]
    exact decide_eq_decide.2 (all_cons (P := fun r : List Int => (r.length : Int) = rowN xs ∧ Diff r (rowN xs)) ⟨c1, of_decide_eq_true c2⟩).symm
theorem impl_ValidRanks_ok (xs : List (List Int)) (hl : ShR xs) : EvS (fun k => impl_ValidRanks.f k xs) (· = decide (VR xs)) := by
  have jt : ¬ VR xs → EvS (fun k => impl_ValidRanks.j0 k xs true) (· = decide (VR xs)) := by
    intro g
    refine EvS.step (fun k => by rw [impl_ValidRanks.j0]) ?_
    exact EvS.pos rfl (EvS.now (decide_eq_false g).symm)
  have jt1 : ¬ VR xs → EvS (fun k => impl_ValidRanks.j1 k xs (rowN xs) true) (· = decide (VR xs)) := by
    intro g
    refine EvS.step (fun k => by rw [impl_ValidRanks.j1]) ?_
    exact EvS.pos rfl (EvS.now (decide_eq_false g).symm)
  simp only [impl_ValidRanks.f]
  refine EvS.ite (fun c => jt (fun g => by have := g.1; omega)) (fun c1 => ?_)
  by_cases c2 : (xs.length : Int) > 12
  · rw [decide_eq_true c2]; exact jt (fun g => by have := g.1; omega)
  · rw [decide_eq_false c2]
    refine EvS.step (fun k => by rw [impl_ValidRanks.j0]) ?_
    refine EvS.neg (by simp) (EvS.pos (by omega) (EvS.ite (fun c => jt1 (fun g => by have := g.2.1; unfold rowN at this; omega)) (fun c3 => ?_)))
    by_cases c4 : rowN xs > 6
    · rw [show decide (((rd_L1 xs 0).length : Int) > 6) = true from decide_eq_true c4]; exact jt1 (fun g => by have := g.2.1; omega)
    · rw [show decide (((rd_L1 xs 0).length : Int) > 6) = false from decide_eq_false c4]
      refine EvS.step (fun k => by rw [impl_ValidRanks.j1]) ?_
      refine EvS.neg (by simp) (EvS.mono (impl_ValidRanks_l0 xs hl xs 0 (At.zero _)) (fun r hr => ?_))
      rw [hr]
      exact decide_eq_decide.2 ⟨fun g => ⟨by omega, by unfold rowN at c4 ⊢; omega, g⟩, fun g => g.2.2⟩
theorem spec_validRanks_l0 (xs : List (List Int)) (hl : ShR xs) (ys : List (List Int)) : ∀ i : Int, At xs i ys → EvS (fun k => spec_validRanks.l0 k xs i) (· = decide ((1 ≤ xs.length ∧ xs.length ≤ 12) ∧ (1 ≤ rowN xs ∧ rowN xs ≤ 6) ∧ ∀ r ∈ ys, (r.length : Int) = rowN xs ∧ Diff r (rowN xs))) := by
  have hxl := hl.1
  have hn := rowN_range hl
  induction ys with
  | nil =>
    intro i h
    refine EvS.step (fun k => by rw [spec_validRanks.l0]) ?_
    refine EvS.neg (by have := h.ge; omega) (EvS.call (inRange_eq _ _ _) (EvS.ite (fun c => ?_) (fun c => EvS.now ?_)))
    · have c := of_decide_eq_true c
      refine EvS.pos (by omega) (EvS.call (inRange_eq _ _ _) (EvS.now ?_))
      exact decide_eq_decide.2 ⟨fun g => ⟨by omega, g, by simp⟩, fun g => g.2.1⟩
    · exact (decide_eq_false (fun g => ndec c (by have := g.1; omega))).symm
  | cons y ys ih =>
    intro i h
    have hy := hl.2 y h.mem
    have hlt := h.lt
    have h0 := h.nonneg
    refine EvS.step (fun k => by rw [spec_validRanks.l0]) ?_
    refine EvS.pos h.lt (EvS.pos h.nonneg (EvS.pos (by omega) ?_))
    rw [at_rdR h]
    have no : ¬ ((y.length : Int) = rowN xs ∧ Diff y (rowN xs)) → false = decide ((1 ≤ xs.length ∧ xs.length ≤ 12) ∧ (1 ≤ rowN xs ∧ rowN xs ≤ 6) ∧ ∀ r ∈ y :: ys, (r.length : Int) = rowN xs ∧ Diff r (rowN xs)) := fun g => (decide_eq_false (fun q => g (q.2.2 y List.mem_cons_self))).symm
    refine EvS.ite (fun c1 => EvS.bindv (validMembers_ok y (by omega) (rowN xs) (by omega) (by omega)) (EvS.ite (fun c2 => ?_) (fun c2 => EvS.now (no (fun g => ndec c2 g.2))))) (fun c1 => EvS.now (no (fun g => c1 g.1)))
    refine EvS.mono (ih _ (h.wnext (by omega))) (fun r hr => ?_)
    rw [hr]
    exact decide_eq_decide.2 (and_congr_right fun _ => and_congr_right fun _ => (all_cons (P := fun r : List Int => (r.length : Int) = rowN xs ∧ Diff r (rowN xs)) ⟨c1, of_decide_eq_true c2⟩).symm)
theorem spec_validRanks_ok (xs : List (List Int)) (hl : ShR xs) : EvS (fun k => spec_validRanks.f k xs) (· = decide (VR xs)) := by
  simp only [spec_validRanks.f]
  exact spec_validRanks_l0 xs hl xs 0 (At.zero _)
/-- How many rank a before b. -/
def pref : List (List Int) → Int → Int → Int
  | [], _, _ => 0
  | r :: l, a, b => (if posF a 0 r < posF b 0 r then 1 else 0) + pref l a b
theorem pref_range (l : List (List Int)) (a b : Int) : 0 ≤ pref l a b ∧ pref l a b ≤ l.length := by
  induction l with
  | nil => simp [pref]
  | cons r l ih => simp only [pref, List.length_cons]; split <;> omega
theorem prefer_l0 (xs : List (List Int)) (hl : ShR xs) (a b : Int) (ys : List (List Int)) : ∀ (i acc : Int), At xs i ys → 0 ≤ acc → acc + pref ys a b = pref xs a b → EvS (fun k => impl_Prefer.l0 k a b acc xs xs.length i) (· = pref xs a b) := by
  have hxl := hl.1
  have hb := pref_range xs a b
  induction ys with
  | nil =>
    intro i acc h h0 e
    refine EvS.step (fun k => by rw [impl_Prefer.l0]) ?_
    exact EvS.neg (by have := h.ge; omega) (EvS.now (by simp [pref] at e; exact e))
  | cons y ys ih =>
    intro i acc h h0 e
    have hy := hl.2 y h.mem
    have hb2 := pref_range ys a b
    simp only [pref] at e
    refine EvS.step (fun k => by rw [impl_Prefer.l0]) ?_
    refine EvS.pos h.lt (EvS.pos h.nonneg (EvS.pos h.lt ?_))
    rw [at_rdR h]
    refine EvS.bindv (index_ok y (by omega) a) (EvS.bindv (index_ok y (by omega) b) (EvS.ite (fun c => ?_) (fun c => ?_)))
    · rw [if_pos c] at e
      rw [w64 (x := acc + 1) (by omega) (by omega)]
      exact ih _ _ (h.wnext (by omega)) (by omega) (by omega)
    · rw [if_neg c] at e
      exact ih _ _ (h.wnext (by omega)) h0 (by omega)
theorem diff_two {a b n : Int} (ha : 0 ≤ a ∧ a < n) (hb : 0 ≤ b ∧ b < n) (ne : a ≠ b) : Diff [a, b] n := by
  refine ⟨by simp [ne], fun x hx => ?_⟩
  simp only [List.mem_cons, List.not_mem_nil, or_false] at hx
  rcases hx with rfl | rfl
  · exact ha
  · exact hb
theorem prefer_ok (xs : List (List Int)) (hl : ShR xs) (hv : VR xs) (a b : Int) (ha : 0 ≤ a ∧ a < rowN xs) (hb : 0 ≤ b ∧ b < rowN xs) (ne : a ≠ b) : EvS (fun k => impl_Prefer.f k xs a b) (· = pref xs a b) := by
  have hn := rowN_range hl
  simp only [impl_Prefer.f]
  refine EvS.bindv (impl_ValidRanks_ok xs hl) (EvS.pos (decide_eq_true hv) (EvS.neg ne (EvS.pos (by have := hv.1; omega) (EvS.bindv (differentBelow_ok [a, b] (by simp) (rowN xs) (by omega) (by omega)) ?_))))
  rw [decide_eq_true (diff_two ha hb ne)]
  refine EvS.step (fun k => by rw [impl_Prefer.j0]) ?_
  exact EvS.neg (by simp) (prefer_l0 xs hl a b xs 0 0 (At.zero _) (by omega) (by omega))
/-! ## Who beats all. -/
def Bt (xs : List (List Int)) (a b : Int) : Prop := a = b ∨ 2 * pref xs a b > xs.length
instance (xs : List (List Int)) (a b : Int) : Decidable (Bt xs a b) := by unfold Bt; infer_instance
def Btp (xs : List (List Int)) (a n : Int) : Prop := ∀ c, 0 ≤ c → c < n → Bt xs a c
theorem btp_succ {xs : List (List Int)} {a n : Int} (hn : 0 ≤ n) : Btp xs a (n + 1) ↔ Btp xs a n ∧ Bt xs a n :=
  ⟨fun g => ⟨fun c c0 c1 => g c c0 (by omega), g n hn (by omega)⟩, fun g c c0 c1 => by
    by_cases e : c = n
    · subst e; exact g.2
    · exact g.1 c c0 (by omega)⟩
def IsBeat (xs : List (List Int)) (r : Int) : Prop := ((0 ≤ r ∧ r < rowN xs) ∧ Btp xs r (rowN xs) ∧ ∀ a, 0 ≤ a → a < r → ¬ Btp xs a (rowN xs)) ∨ (r = -1 ∧ ∀ a, 0 ≤ a → a < rowN xs → ¬ Btp xs a (rowN xs))
theorem IsBeat.eq {xs : List (List Int)} {r q : Int} (h : IsBeat xs r) (g : IsBeat xs q) : r = q := by
  rcases h with ⟨h1, h2, h3⟩ | ⟨h1, h2⟩
  · rcases g with ⟨g1, g2, g3⟩ | ⟨g1, g2⟩
    · rcases Int.lt_trichotomy r q with c | c | c
      · exact absurd h2 (g3 r h1.1 c)
      · exact c
      · exact absurd g2 (h3 q g1.1 c)
    · exact absurd h2 (g2 r h1.1 h1.2)
  · rcases g with ⟨g1, g2, g3⟩ | ⟨g1, g2⟩
    · exact absurd g2 (h2 q g1.1 g1.2)
    · omega
theorem impl_beats_l1 (xs : List (List Int)) (hl : ShR xs) (hv : VR xs) (a : Int) (ha : 0 ≤ a ∧ a < rowN xs) (K : ¬ Btp xs a (rowN xs) → EvS (fun k => impl_BeatsAll.l0 k xs (rowN xs) (wrap64 (a + 1))) (IsBeat xs)) (hp : ∀ c, 0 ≤ c → c < a → ¬ Btp xs c (rowN xs)) (d : Nat) : ∀ (b : Int) (f : Bool), b + d = rowN xs → 0 ≤ b → (f = true ↔ Btp xs a b) →
    EvS (fun k => impl_BeatsAll.l1 k xs a f (rowN xs) a (rowN xs) b) (IsBeat xs) := by
  have hn := hv.2.1
  have hxl := hv.1
  induction d with
  | zero =>
    intro b f e h0 hf
    have : b = rowN xs := by omega
    subst this
    refine EvS.step (fun k => by rw [impl_BeatsAll.l1]) ?_
    exact EvS.neg (by omega) (EvS.ite (fun c => EvS.now (.inl ⟨ha, hf.1 c, hp⟩)) (fun c => K (fun g => c (hf.2 g))))
  | succ d ih =>
    intro b f e h0 hf
    have hr := pref_range xs a b
    refine EvS.step (fun k => by rw [impl_BeatsAll.l1]) ?_
    rw [w64 (x := b + 1) (by omega) (by omega)]
    refine EvS.pos (by omega) (EvS.ite (fun c => EvS.ite (fun c2 => ih _ _ (by omega) (by omega) ?_) (fun c2 => EvS.bindv (prefer_ok xs hl hv a b ha (by omega) c2) ?_)) (fun c => ih _ _ (by omega) (by omega) ?_))
    · rw [btp_succ h0]; exact ⟨fun _ => ⟨hf.1 c, .inl c2⟩, fun _ => rfl⟩
    · rw [w64 (x := 2 * pref xs a b) (by omega) (by omega)]
      refine ih _ _ (by omega) (by omega) ?_
      rw [btp_succ h0]
      exact ⟨fun g => ⟨hf.1 c, .inr (of_decide_eq_true g)⟩, fun g => decide_eq_true (by rcases g.2 with g | g; exact absurd g c2; exact g)⟩
    · rw [btp_succ h0]; exact ⟨fun g => by simp at g, fun g => absurd (hf.2 g.1) c⟩
theorem impl_beats_l0 (xs : List (List Int)) (hl : ShR xs) (hv : VR xs) (d : Nat) : ∀ a : Int, a + d = rowN xs → 0 ≤ a → (∀ c, 0 ≤ c → c < a → ¬ Btp xs c (rowN xs)) → EvS (fun k => impl_BeatsAll.l0 k xs (rowN xs) a) (IsBeat xs) := by
  have hn := hv.2.1
  induction d with
  | zero =>
    intro a e h0 hp
    refine EvS.step (fun k => by rw [impl_BeatsAll.l0]) ?_
    exact EvS.neg (by omega) (EvS.now (.inr ⟨rfl, fun c c0 c1 => hp c c0 (by omega)⟩))
  | succ d ih =>
    intro a e h0 hp
    refine EvS.step (fun k => by rw [impl_BeatsAll.l0]) ?_
    refine EvS.pos (by omega) (EvS.pos (by have := hv.1; omega) (impl_beats_l1 xs hl hv a (by omega) (fun g => ?_) hp (rowN xs).toNat 0 true (by omega) (by omega) ⟨fun _ c c0 c1 => by omega, fun _ => rfl⟩))
    rw [w64 (x := a + 1) (by omega) (by omega)]
    refine ih _ (by omega) (by omega) (fun c c0 c1 => ?_)
    by_cases q : c = a
    · subst q; exact g
    · exact hp c c0 (by omega)
theorem impl_BeatsAll_ok (xs : List (List Int)) (hl : ShR xs) : EvS (fun k => impl_BeatsAll.f k xs) (fun r => if VR xs then IsBeat xs r else r = -1) := by
  simp only [impl_BeatsAll.f]
  refine EvS.bindv (impl_ValidRanks_ok xs hl) ?_
  by_cases hv : VR xs
  · simp only [if_pos hv]
    exact EvS.pos (decide_eq_true hv) (EvS.pos (by have := hv.1; omega) (impl_beats_l0 xs hl hv (rowN xs).toNat 0 (by have := hv.2.1; omega) (by omega) (fun c c0 c1 => by omega)))
  · simp only [if_neg hv]
    exact EvS.neg (by simp [hv]) (EvS.now rfl)
theorem spec_beats_l0' (xs : List (List Int)) (hl : ShR xs) (a b : Int) (ys : List (List Int)) : ∀ (i acc : Int), At xs i ys → 0 ≤ acc → acc + pref ys a b = pref xs a b → EvS (fun k => spec_beats.l0 k xs a b acc i) (· = pref xs a b) := by
  have hxl := hl.1
  have hb := pref_range xs a b
  induction ys with
  | nil =>
    intro i acc h h0 e
    refine EvS.step (fun k => by rw [spec_beats.l0]) ?_
    exact EvS.neg (by have := h.ge; omega) (EvS.now (by simp [pref] at e; exact e))
  | cons y ys ih =>
    intro i acc h h0 e
    have hy := hl.2 y h.mem
    have hb2 := pref_range ys a b
    simp only [pref] at e
    refine EvS.step (fun k => by rw [spec_beats.l0]) ?_
    refine EvS.pos h.lt (EvS.pos h.nonneg ?_)
    rw [at_rdR h]
    refine EvS.bindv (placeIn_ok y (by omega) a) (EvS.bindv (placeIn_ok y (by omega) b) (EvS.ite (fun c => ?_) (fun c => ?_)))
    · rw [if_pos c] at e
      rw [w64 (x := acc + 1) (by omega) (by omega)]
      exact ih _ _ (h.wnext (by omega)) (by omega) (by omega)
    · rw [if_neg c] at e
      exact ih _ _ (h.wnext (by omega)) h0 (by omega)
theorem spec_beats_ok (xs : List (List Int)) (hl : ShR xs) (a b : Int) : EvS (fun k => spec_beats.f k xs a b) (· = pref xs a b) := by
  simp only [spec_beats.f]
  exact spec_beats_l0' xs hl a b xs 0 0 (At.zero _) (by omega) (by omega)
theorem spec_all_l1 (xs : List (List Int)) (hl : ShR xs) (hv : VR xs) (a : Int) (ha : 0 ≤ a ∧ a < rowN xs) (K : ¬ Btp xs a (rowN xs) → EvS (fun k => spec_BeatsAll.l0 k xs (wrap64 (a + 1))) (IsBeat xs)) (hp : ∀ c, 0 ≤ c → c < a → ¬ Btp xs c (rowN xs)) (d : Nat) : ∀ (b : Int) (f : Bool), b + d = rowN xs → 0 ≤ b → (f = true ↔ Btp xs a b) →
    EvS (fun k => spec_BeatsAll.l1 k xs a f b) (IsBeat xs) := by
  have hn := hv.2.1
  have hxl := hv.1
  have hnn : rowN xs = ((rd_L1 xs 0).length : Int) := rfl
  induction d with
  | zero =>
    intro b f e h0 hf
    have : b = rowN xs := by omega
    subst this
    refine EvS.step (fun k => by rw [spec_BeatsAll.l1]) ?_
    exact EvS.pos (by omega) (EvS.neg (by omega) (EvS.ite (fun c => EvS.now (.inl ⟨ha, hf.1 c, hp⟩)) (fun c => K (fun g => c (hf.2 g)))))
  | succ d ih =>
    intro b f e h0 hf
    have hr := pref_range xs a b
    refine EvS.step (fun k => by rw [spec_BeatsAll.l1]) ?_
    rw [w64 (x := b + 1) (by omega) (by omega)]
    refine EvS.pos (by omega) (EvS.pos (by omega) (EvS.ite (fun c => EvS.ite (fun c2 => ih _ _ (by omega) (by omega) ?_) (fun c2 => EvS.bindv (spec_beats_ok xs hl a b) ?_)) (fun c => ih _ _ (by omega) (by omega) ?_)))
    · rw [btp_succ h0]; exact ⟨fun _ => ⟨hf.1 c, .inl c2⟩, fun _ => rfl⟩
    · rw [w64 (x := 2 * pref xs a b) (by omega) (by omega)]
      refine ih _ _ (by omega) (by omega) ?_
      rw [btp_succ h0]
      exact ⟨fun g => ⟨hf.1 c, .inr (of_decide_eq_true g)⟩, fun g => decide_eq_true (by rcases g.2 with g | g; exact absurd g c2; exact g)⟩
    · rw [btp_succ h0]; exact ⟨fun g => by simp at g, fun g => absurd (hf.2 g.1) c⟩
theorem spec_all_l0 (xs : List (List Int)) (hl : ShR xs) (hv : VR xs) (d : Nat) : ∀ a : Int, a + d = rowN xs → 0 ≤ a → (∀ c, 0 ≤ c → c < a → ¬ Btp xs c (rowN xs)) → EvS (fun k => spec_BeatsAll.l0 k xs a) (IsBeat xs) := by
  have hn := hv.2.1
  have hnn : rowN xs = ((rd_L1 xs 0).length : Int) := rfl
  induction d with
  | zero =>
    intro a e h0 hp
    refine EvS.step (fun k => by rw [spec_BeatsAll.l0]) ?_
    exact EvS.pos (by have := hv.1; omega) (EvS.neg (by omega) (EvS.now (.inr ⟨rfl, fun c c0 c1 => hp c c0 (by omega)⟩)))
  | succ d ih =>
    intro a e h0 hp
    refine EvS.step (fun k => by rw [spec_BeatsAll.l0]) ?_
    refine EvS.pos (by have := hv.1; omega) (EvS.pos (by omega) (spec_all_l1 xs hl hv a (by omega) (fun g => ?_) hp (rowN xs).toNat 0 true (by omega) (by omega) ⟨fun _ c c0 c1 => by omega, fun _ => rfl⟩))
    rw [w64 (x := a + 1) (by omega) (by omega)]
    refine ih _ (by omega) (by omega) (fun c c0 c1 => ?_)
    by_cases q : c = a
    · subst q; exact g
    · exact hp c c0 (by omega)
theorem spec_BeatsAll_ok (xs : List (List Int)) (hl : ShR xs) : EvS (fun k => spec_BeatsAll.f k xs) (fun r => if VR xs then IsBeat xs r else r = -1) := by
  simp only [spec_BeatsAll.f]
  refine EvS.bindv (spec_validRanks_ok xs hl) ?_
  by_cases hv : VR xs
  · simp only [if_pos hv]
    exact EvS.pos (decide_eq_true hv) (spec_all_l0 xs hl hv (rowN xs).toNat 0 (by have := hv.2.1; omega) (by omega) (fun c c0 c1 => by omega))
  · simp only [if_neg hv]
    exact EvS.neg (by simp [hv]) (EvS.now rfl)
theorem szIntSS_l0 (xs : List (List Int)) (hx : xs.length ≤ 1048576) (hr : ∀ r ∈ xs, r.length ≤ 9223372036854775807) (ys : List (List Int)) : ∀ (i c : Int), At xs i ys → 0 ≤ c → c ≤ 1048576 → EvS (fun k => laws_szIntSS.l0 k xs c i) (fun t => t < 0 ∨ ∀ r ∈ ys, r.length ≤ 1048576) := by
  induction ys with
  | nil =>
    intro i c h h0 h1
    refine EvS.step (fun k => by rw [laws_szIntSS.l0]) ?_
    exact EvS.neg (by have := h.ge; omega) (EvS.now (.inr (by simp)))
  | cons y ys ih =>
    intro i c h h0 h1
    have hy := hr y h.mem
    refine EvS.step (fun k => by rw [laws_szIntSS.l0]) ?_
    refine EvS.pos h.lt (EvS.pos h.nonneg ?_)
    rw [at_rdR h]
    simp only [laws_szIntS.f]
    rw [w64 (x := c - (y.length : Int)) (by omega) (by omega)]
    by_cases g : c - (y.length : Int) < 0
    · simp only [if_pos g]
      exact EvS.onsome (EvS.pos (by omega) (EvS.now (.inl (by omega))))
    · simp only [if_neg g]
      refine EvS.onsome (EvS.neg g (EvS.mono (ih _ _ (h.wnext (by omega)) (by omega) (by omega)) (fun t ht => ht.imp id (fun q r hrr => ?_))))
      rcases List.mem_cons.1 hrr with rfl | hrr
      · omega
      · exact q r hrr
theorem szIntSS_ok (xs : List (List Int)) (hx : xs.length ≤ 9223372036854775807) (hr : ∀ r ∈ xs, r.length ≤ 9223372036854775807) : EvS (fun k => laws_szIntSS.f k xs 1048576) (fun t => t < 0 ∨ ShR xs) := by
  simp only [laws_szIntSS.f]
  rw [w64 (x := 1048576 - (xs.length : Int)) (by omega) (by omega)]
  refine EvS.ite (fun _ => EvS.now (.inl (by omega))) (fun c => EvS.mono (szIntSS_l0 xs (by omega) hr xs 0 _ (At.zero _) (by omega) (by omega)) (fun t ht => ht.imp id (fun q => ⟨by omega, fun r hrr => by have := q r hrr; omega⟩)))
theorem rdR_set (xs : List (List Int)) (i j : Int) (v : List Int) (h0 : 0 ≤ i) (h1 : i < xs.length) (h2 : 0 ≤ j) : rd_L1 (xs.set i.toNat v) j = if i = j then v else rd_L1 xs j := by
  unfold rd_L1
  rw [List.getD_eq_getElem?_getD, List.getElem?_set]
  by_cases c : i = j
  · subst c; rw [if_pos rfl, if_pos (by omega), if_pos rfl]; rfl
  · rw [if_neg (by omega), if_neg c, List.getD_eq_getElem?_getD]
theorem rows_ext {xs ys : List (List Int)} (hl : xs.length = ys.length) (h : ∀ i : Int, 0 ≤ i → i < xs.length → rd_L1 xs i = rd_L1 ys i) : xs = ys := by
  apply List.ext_getElem hl
  intro n h1 h2
  have := h n (by omega) (by omega)
  unfold rd_L1 at this
  simp only [Int.toNat_natCast] at this
  rw [List.getD_eq_getElem?_getD, List.getD_eq_getElem?_getD, List.getElem?_eq_getElem h1, List.getElem?_eq_getElem h2] at this
  exact this
theorem toIntSS_l0 (xs : List (List Int)) (hl : ShR xs) (ys : List (List Int)) : ∀ (i : Int) (s : List (List Int)), At xs i ys → s.length = xs.length → (∀ j : Int, 0 ≤ j → j < i → rd_L1 s j = rd_L1 xs j) → EvS (fun k => laws_toIntSS.l0 k xs s i) (· = xs) := by
  have hxl := hl.1
  induction ys with
  | nil =>
    intro i s h hs hj
    have := h.ge
    refine EvS.step (fun k => by rw [laws_toIntSS.l0]) ?_
    exact EvS.neg (by omega) (EvS.now (rows_ext hs (fun j j0 j1 => hj j j0 (by omega))))
  | cons y ys ih =>
    intro i s h hs hj
    have hy := hl.2 y h.mem
    have i0 := h.nonneg
    have i1 := h.lt
    refine EvS.step (fun k => by rw [laws_toIntSS.l0]) ?_
    refine EvS.pos i1 (EvS.pos i0 ?_)
    rw [at_rdR h]
    refine EvS.bindv (toIntS_ok y (by omega)) (EvS.pos (by omega) ?_)
    rw [w64 (x := i + 1) (by omega) (by omega)]
    refine ih _ _ h.next (by simpa using hs) (fun j j0 j1 => ?_)
    rw [rdR_set _ _ _ _ i0 (by omega) j0]
    by_cases e : i = j
    · subst e; rw [if_pos rfl, at_rdR h]
    · rw [if_neg e]; exact hj j j0 (by omega)
theorem toIntSS_ok (xs : List (List Int)) (hl : ShR xs) : EvS (fun k => laws_toIntSS.f k xs) (· = xs) := by
  have hxl := hl.1
  simp only [laws_toIntSS.f]
  exact EvS.pos (by omega) (EvS.pos (by omega) (toIntSS_l0 xs hl xs 0 _ (At.zero _) (by simp) (fun j j0 j1 => by omega)))
theorem eqIntSS_l0 (xs : List (List Int)) (hl : ShR xs) (ys : List (List Int)) : ∀ i : Int, At xs i ys → EvS (fun k => laws_eqIntSS.l0 k xs xs i) (· = true) := by
  have hxl := hl.1
  induction ys with
  | nil =>
    intro i h
    refine EvS.step (fun k => by rw [laws_eqIntSS.l0]) ?_
    exact EvS.neg (by have := h.ge; omega) (EvS.now rfl)
  | cons y ys ih =>
    intro i h
    have hy := hl.2 y h.mem
    refine EvS.step (fun k => by rw [laws_eqIntSS.l0]) ?_
    refine EvS.pos h.lt (EvS.pos h.nonneg (EvS.pos h.lt ?_))
    rw [at_rdR h]
    exact EvS.bindv (eqIntS_ok y (by omega)) (EvS.pos rfl (ih _ (h.wnext (by omega))))
theorem eqIntSS_ok (xs : List (List Int)) (hl : ShR xs) : EvS (fun k => laws_eqIntSS.f k xs xs) (· = true) := by
  simp only [laws_eqIntSS.f]
  exact EvS.pos (by trivial) (eqIntSS_l0 xs hl xs 0 (At.zero _))
theorem FnExactBeatsAll (xs : List (List Int)) (hx : xs.length ≤ 9223372036854775807) (hr : ∀ r ∈ xs, r.length ≤ 9223372036854775807) : ∃ k, laws_FnExactBeatsAll.f k xs = some true := by
  refine EvS.holds ?_
  simp only [laws_FnExactBeatsAll.f]
  refine EvS.bind (szIntSS_ok xs hx hr) (fun t ht => EvS.ite (fun _ => EvS.now rfl) (fun c => ?_))
  have hl : ShR xs := by
    rcases ht with g | g
    · exact absurd g c
    · exact g
  refine EvS.bindv (toIntSS_ok xs hl) (EvS.bind (spec_BeatsAll_ok xs hl) (fun r2 hr2 => EvS.bindv (toIntSS_ok xs hl) (EvS.bind (impl_BeatsAll_ok xs hl) (fun r1 hr1 => ?_))))
  have eqr : r1 = r2 := by
    by_cases hv : VR xs
    · simp only [if_pos hv] at hr1 hr2; exact hr1.eq hr2
    · simp only [if_neg hv] at hr1 hr2; rw [hr1, hr2]
  exact EvS.pos eqr (EvS.bindv (toIntSS_ok xs hl) (EvS.bindv (eqIntSS_ok xs hl) (EvS.pos rfl (EvS.now rfl))))
end Go.Proofs.Ytlagpccnhbobiaa.Pure
