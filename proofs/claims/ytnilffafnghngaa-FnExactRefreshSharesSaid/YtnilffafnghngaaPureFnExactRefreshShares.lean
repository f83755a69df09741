/- RefreshShares is what the reference tells, for all shares and numbers; and what it gives lies apart from what it was given. Conditions: none. -/
import Derived.Test.YtnilffafnghngaaMFnExactRefreshSharesx0
import Derived.Test.YtnilffafnghngaaMFnExactRefreshSharesx1
import Derived.Test.YtnilffafnghngaaMFnExactRefreshSharesx2
import Derived.Test.YtnilffafnghngaaMFnExactRefreshSharesx3
import Derived.Test.YtnilffafnghngaaMFnExactRefreshSharesx4
import Derived.Test.YtnilffafnghngaaMFnExactRefreshSharesx5
import Derived.Test.YtnilffafnghngaaMFnExactRefreshSharesx6
import Derived.Test.YtnilffafnghngaaBase
set_option linter.unusedVariables false
set_option linter.unusedSimpArgs false
namespace Go.Proofs.Ytnilffafnghngaa.Pure
open Go.RowKit Go.Proofs.Ytnilffafnghngaa.PFnExactRefreshShares Go.Proofs.YtnilffafnghngaaW.PrintWords Go.Proofs.YtnilffafnghngaaW.PrintLast Go.Proofs.YtnilffafnghngaaW.PrintMore Go.Proofs.Ytnilffafnghngaa.Base
theorem u8_range {x : Int} (h : (Lit.int .u8 x).wf = true) : 0 ≤ x ∧ x ≤ 255 := by
  simp [Lit.wf, IntKind.min, IntKind.max, IntKind.bits, IntKind.signed] at h
  omega
/-! ## Lists of numbers. -/
theorem inRange_eq (n lo hi : Int) : spec_inRange.f n lo hi = some (decide (lo ≤ n ∧ n ≤ hi)) := by
  unfold spec_inRange.f
  split
  · exact congrArg some (decide_eq_decide.2 (by omega))
  · exact congrArg some (decide_eq_false (by omega)).symm
def AllW (xs : List Int) (lo hi : Int) : Prop := ∀ x ∈ xs, lo ≤ x ∧ x ≤ hi
instance (xs : List Int) (lo hi : Int) : Decidable (AllW xs lo hi) := by unfold AllW; infer_instance
theorem allW_cons (y : Int) (ys : List Int) (lo hi : Int) : AllW (y :: ys) lo hi ↔ (lo ≤ y ∧ y ≤ hi) ∧ AllW ys lo hi := by
  unfold AllW; simp
theorem allWithin_l0 (xs : List Int) (hl : xs.length ≤ 1099511627776) (lo hi : Int) (ys : List Int) : ∀ i : Int, At xs i ys → EvS (fun k => impl_allWithin.l0 k lo hi xs xs.length i) (· = decide (AllW ys lo hi)) := by
  induction ys with
  | nil =>
    intro i h
    refine EvS.step (fun k => by rw [impl_allWithin.l0]) ?_
    exact EvS.neg (by have := h.ge; omega) (EvS.now (by simp [AllW]))
  | cons y ys ih =>
    intro i h
    refine EvS.step (fun k => by rw [impl_allWithin.l0]) ?_
    refine EvS.pos h.lt (EvS.pos h.nonneg (EvS.pos h.lt ?_))
    rw [At.rd h]
    refine EvS.ite (fun c => EvS.now (decide_eq_false (fun g => by have := (allW_cons _ _ _ _).1 g; omega)).symm) (fun c1 => EvS.ite (fun c => EvS.now (decide_eq_false (fun g => by have := (allW_cons _ _ _ _).1 g; omega)).symm) (fun c2 => ?_))
    refine EvS.mono (ih _ (h.wnext (by omega))) (fun r hr => ?_)
    rw [hr]
    exact decide_eq_decide.2 ⟨fun g => (allW_cons _ _ _ _).2 ⟨by omega, g⟩, fun g => ((allW_cons _ _ _ _).1 g).2⟩
theorem allWithin_ok (xs : List Int) (hl : xs.length ≤ 1099511627776) (lo hi : Int) : EvS (fun k => impl_allWithin.f k xs lo hi) (· = decide (AllW xs lo hi)) := by
  simp only [impl_allWithin.f]
  exact allWithin_l0 xs hl lo hi xs 0 (At.zero xs)
theorem allIn_l0 (xs : List Int) (hl : xs.length ≤ 1099511627776) (lo hi : Int) (ys : List Int) : ∀ i : Int, At xs i ys → EvS (fun k => spec_allIn.l0 k xs lo hi i) (· = decide (AllW ys lo hi)) := by
  induction ys with
  | nil =>
    intro i h
    refine EvS.step (fun k => by rw [spec_allIn.l0]) ?_
    exact EvS.neg (by have := h.ge; omega) (EvS.now (by simp [AllW]))
  | cons y ys ih =>
    intro i h
    refine EvS.step (fun k => by rw [spec_allIn.l0]) ?_
    refine EvS.pos h.lt (EvS.pos h.nonneg ?_)
    rw [At.rd h]
    refine EvS.call (inRange_eq _ _ _) (EvS.ite (fun c => ?_) (fun c => EvS.now ?_))
    · have c := of_decide_eq_true c
      refine EvS.mono (ih _ (h.wnext (by omega))) (fun r hr => ?_)
      rw [hr]
      exact decide_eq_decide.2 ⟨fun g => (allW_cons _ _ _ _).2 ⟨by omega, g⟩, fun g => ((allW_cons _ _ _ _).1 g).2⟩
    · have c := ndec c
      exact (decide_eq_false (fun g => c ((allW_cons _ _ _ _).1 g).1)).symm
theorem allIn_ok (xs : List Int) (hl : xs.length ≤ 1099511627776) (lo hi : Int) : EvS (fun k => spec_allIn.f k xs lo hi) (· = decide (AllW xs lo hi)) := by
  simp only [spec_allIn.f]
  exact allIn_l0 xs hl lo hi xs 0 (At.zero xs)
/-- The first place of a number, counted from i on; -1 if it is not there. -/
def posF (v : Int) : Int → List Int → Int
  | _, [] => -1
  | i, x :: xs => if x = v then i else posF v (i + 1) xs
theorem posF_range (v : Int) (xs : List Int) : ∀ i : Int, 0 ≤ i → (v ∈ xs → i ≤ posF v i xs ∧ posF v i xs < i + xs.length) ∧ (v ∉ xs → posF v i xs = -1) := by
  induction xs with
  | nil => intro i h0; exact ⟨fun h => by simp at h, fun _ => rfl⟩
  | cons x xs ih =>
    intro i h0
    have h := ih (i + 1) (by omega)
    simp only [posF, List.length_cons]
    by_cases c : x = v
    · rw [if_pos c]; exact ⟨fun _ => by omega, fun g => absurd (by simp [c]) g⟩
    · rw [if_neg c]
      refine ⟨fun g => ?_, fun g => h.2 (fun g2 => g (List.mem_cons_of_mem _ g2))⟩
      have := h.1 ((List.mem_cons.1 g).resolve_left (fun e => c e.symm))
      omega
theorem posF_nonneg (v : Int) (xs : List Int) (i : Int) (h : 0 ≤ i) : (0 ≤ posF v i xs) ↔ v ∈ xs := by
  by_cases c : v ∈ xs
  · have := (posF_range v xs i h).1 c; exact ⟨fun _ => c, fun _ => by omega⟩
  · have := (posF_range v xs i h).2 c; exact ⟨fun g => by omega, fun g => absurd g c⟩
theorem placeIn_l0 (xs : List Int) (hl : xs.length ≤ 1099511627776) (v : Int) (ys : List Int) : ∀ i : Int, At xs i ys → EvS (fun k => spec_placeIn.l0 k xs v i) (· = posF v i ys) := by
  induction ys with
  | nil =>
    intro i h
    refine EvS.step (fun k => by rw [spec_placeIn.l0]) ?_
    exact EvS.neg (by have := h.ge; omega) (EvS.now rfl)
  | cons y ys ih =>
    intro i h
    have h1 := h.lt
    have h2 := h.nonneg
    have hw : wrap64 (i + 1) = i + 1 := w64 (by omega) (by omega)
    refine EvS.step (fun k => by rw [spec_placeIn.l0]) ?_
    refine EvS.pos h.lt (EvS.pos h.nonneg ?_)
    rw [At.rd h, hw, posF]
    by_cases c : y = v
    · rw [if_pos c]; exact EvS.pos c (EvS.now rfl)
    · rw [if_neg c]; exact EvS.neg c (ih _ h.next)
theorem placeIn_ok (xs : List Int) (hl : xs.length ≤ 1099511627776) (v : Int) : EvS (fun k => spec_placeIn.f k xs v) (· = posF v 0 xs) := by
  simp only [spec_placeIn.f]
  exact placeIn_l0 xs hl v xs 0 (At.zero xs)
/-- Different numbers from 0 to n - 1. -/
def Diff (xs : List Int) (n : Int) : Prop := xs.Nodup ∧ ∀ x ∈ xs, 0 ≤ x ∧ x < n
instance (xs : List Int) (n : Int) : Decidable (Diff xs n) := by unfold Diff; infer_instance
def DiffF (pre ys : List Int) (n : Int) : Prop := ys.Nodup ∧ ∀ y ∈ ys, 0 ≤ y ∧ y < n ∧ y ∉ pre
instance (pre ys : List Int) (n : Int) : Decidable (DiffF pre ys n) := by unfold DiffF; infer_instance
theorem diffF_cons (pre : List Int) (y : Int) (ys : List Int) (n : Int) : DiffF pre (y :: ys) n ↔ (0 ≤ y ∧ y < n ∧ y ∉ pre) ∧ DiffF (y :: pre) ys n := by
  unfold DiffF
  constructor
  · rintro ⟨h1, h2⟩
    have h1 := List.nodup_cons.1 h1
    refine ⟨h2 y List.mem_cons_self, h1.2, fun z hz => ?_⟩
    have := h2 z (List.mem_cons_of_mem _ hz)
    refine ⟨this.1, this.2.1, fun hm => ?_⟩
    rcases List.mem_cons.1 hm with rfl | hm
    · exact h1.1 hz
    · exact this.2.2 hm
  · rintro ⟨h1, h2, h3⟩
    refine ⟨List.nodup_cons.2 ⟨fun hm => (h3 y hm).2.2 List.mem_cons_self, h2⟩, fun z hz => ?_⟩
    rcases List.mem_cons.1 hz with rfl | hz
    · exact h1
    · have := h3 z hz
      exact ⟨this.1, this.2.1, fun hm => this.2.2 (List.mem_cons_of_mem _ hm)⟩
theorem diffF_congr {p q ys : List Int} {n : Int} (h : ∀ x, x ∈ p ↔ x ∈ q) : DiffF p ys n ↔ DiffF q ys n := by
  unfold DiffF
  simp only [h]
theorem diffF_nil (xs : List Int) (n : Int) : DiffF [] xs n ↔ Diff xs n := by
  unfold DiffF Diff; simp
theorem diff_len {xs : List Int} {n : Int} (h : Diff xs n) : (xs.length : Int) ≤ n ∨ xs = [] := by
  rcases xs with _ | ⟨x, xs⟩
  · exact .inr rfl
  · left
    have h1 : 0 ≤ n := by have := h.2 x List.mem_cons_self; omega
    have h2 : (x :: xs) ⊆ (List.range n.toNat).map (fun m : Nat => (m : Int)) := by
      intro y hy
      have := h.2 y hy
      exact List.mem_map.2 ⟨y.toNat, List.mem_range.2 (by omega), by omega⟩
    have h3 := h.1.length_le_of_subset h2
    rw [List.length_map, List.length_range] at h3
    omega
theorem differentBelow_l0 (xs : List Int) (hl : xs.length ≤ 1099511627776) (n : Int) (ys : List Int) : ∀ (i : Int) (seen : List Bool) (pre : List Int), At xs i ys → (seen.length : Int) = n → (∀ v : Int, 0 ≤ v → v < n → (rdOf false seen v = true ↔ v ∈ pre)) →
    EvS (fun k => impl_differentBelow.l0 k n seen xs xs.length i) (· = decide (DiffF pre ys n)) := by
  induction ys with
  | nil =>
    intro i seen pre h hs hv
    refine EvS.step (fun k => by rw [impl_differentBelow.l0]) ?_
    exact EvS.neg (by have := h.ge; omega) (EvS.now (by simp [DiffF]))
  | cons y ys ih =>
    intro i seen pre h hs hv
    refine EvS.step (fun k => by rw [impl_differentBelow.l0]) ?_
    refine EvS.pos h.lt (EvS.pos h.nonneg (EvS.pos h.lt ?_))
    rw [At.rd h]
    refine EvS.ite (fun c => EvS.now (decide_eq_false (fun g => by have := ((diffF_cons _ _ _ _).1 g).1; omega)).symm) (fun c1 => EvS.ite (fun c => EvS.now (decide_eq_false (fun g => by have := ((diffF_cons _ _ _ _).1 g).1; omega)).symm) (fun c2 => EvS.pos (by omega) (EvS.pos (by omega) ?_)))
    have hy := hv y (by omega) (by omega)
    refine EvS.ite (fun c => EvS.now (decide_eq_false (fun g => ((diffF_cons _ _ _ _).1 g).1.2.2 (hy.1 c))).symm) (fun c3 => ?_)
    refine EvS.mono (ih _ (seen.set y.toNat true) (y :: pre) (h.wnext (by omega)) (by simpa using hs) (fun v h0 h1 => ?_)) (fun r hr => ?_)
    · unfold rdOf
      rw [List.getD_eq_getElem?_getD, List.getElem?_set]
      by_cases e : y = v
      · subst e
        rw [if_pos rfl, if_pos (by omega)]
        exact ⟨fun _ => List.mem_cons_self, fun _ => rfl⟩
      · rw [if_neg (by omega)]
        have := hv v h0 h1
        unfold rdOf at this
        rw [List.getD_eq_getElem?_getD] at this
        rw [this, List.mem_cons]
        exact ⟨fun g => .inr g, fun g => g.resolve_left (fun e2 => e e2.symm)⟩
    · rw [hr]
      exact decide_eq_decide.2 ⟨fun g => (diffF_cons _ _ _ _).2 ⟨⟨by omega, by omega, fun hm => c3 (hy.2 hm)⟩, g⟩, fun g => ((diffF_cons _ _ _ _).1 g).2⟩
theorem differentBelow_ok (xs : List Int) (hl : xs.length ≤ 1099511627776) (n : Int) (hn : n ≤ 1099511627776) (h0 : 0 ≤ n) : EvS (fun k => impl_differentBelow.f k xs n) (· = decide (Diff xs n)) := by
  simp only [impl_differentBelow.f]
  refine EvS.ite (fun c => EvS.now (decide_eq_false (fun g => ?_)).symm) (fun c => EvS.pos h0 (EvS.pos (by omega) ?_))
  · rcases diff_len g with h | h
    · omega
    · subst h; simp at c; omega
  · refine EvS.mono (differentBelow_l0 xs hl n xs 0 _ [] (At.zero xs) (by simp; omega) (fun v _ _ => ?_)) (fun r hr => ?_)
    · unfold rdOf
      rw [List.getD_eq_getElem?_getD, List.getElem?_replicate]
      split <;> simp
    · rw [hr]
      exact decide_eq_decide.2 (diffF_nil xs n)
/-! ## Amounts divided into equal parts. -/
theorem list_ext {xs ys : List Int} (hl : xs.length = ys.length) (h : ∀ i : Int, 0 ≤ i → i < xs.length → rd xs i = rd ys i) : xs = ys := by
  apply List.ext_getElem hl
  intro n h1 h2
  have := h n (by omega) (by omega)
  unfold rd at this
  simp only [Int.toNat_natCast] at this
  rw [List.getD_eq_getElem?_getD, List.getD_eq_getElem?_getD, List.getElem?_eq_getElem h1, List.getElem?_eq_getElem h2] at this
  exact this
theorem rd_set (xs : List Int) (i j v : Int) (h0 : 0 ≤ i) (h1 : i < xs.length) (h2 : 0 ≤ j) : rd (xs.set i.toNat v) j = if i = j then v else rd xs j := by
  unfold rd
  rw [List.getD_eq_getElem?_getD, List.getElem?_set]
  by_cases c : i = j
  · subst c; rw [if_pos rfl, if_pos (by omega), if_pos rfl]; rfl
  · rw [if_neg (by omega), if_neg c, List.getD_eq_getElem?_getD]
theorem rd_zeros (n : Nat) (j : Int) : rd (List.replicate n 0) j = 0 := by
  unfold rd
  rw [List.getD_eq_getElem?_getD, List.getElem?_replicate]
  split <;> rfl
theorem rd_snoc (xs : List Int) (v j : Int) (h0 : 0 ≤ j) : rd (xs ++ [v]) j = if j < xs.length then rd xs j else if j = xs.length then v else 0 := by
  unfold rd
  rw [List.getD_eq_getElem?_getD, List.getD_eq_getElem?_getD]
  by_cases c : j < xs.length
  · rw [if_pos c, List.getElem?_append_left (by omega)]
  · rw [if_neg c, List.getElem?_append_right (by omega)]
    by_cases c2 : j = xs.length
    · rw [if_pos c2, c2]; simp
    · rw [if_neg c2, List.getElem?_eq_none (by simp; omega)]; rfl
/-! ## What an exact law asks of lists of numbers. -/
theorem toIntS_l0 (xs : List Int) (hl : xs.length ≤ 4000000) (ys : List Int) : ∀ (i : Int) (s : List Int), At xs i ys → s.length = xs.length → (∀ j : Int, 0 ≤ j → j < i → rd s j = rd xs j) → EvS (fun k => laws_toIntS.l0 k xs s i) (· = xs) := by
  induction ys with
  | nil =>
    intro i s h h1 h2
    have := h.ge
    refine EvS.step (fun k => by rw [laws_toIntS.l0]) ?_
    exact EvS.neg (by omega) (EvS.now (list_ext h1 (fun j j0 j1 => h2 j j0 (by omega))))
  | cons y ys ih =>
    intro i s h h1 h2
    have g1 := h.lt
    have g2 := h.nonneg
    refine EvS.step (fun k => by rw [laws_toIntS.l0]) ?_
    refine EvS.pos h.lt (EvS.pos h.nonneg (EvS.pos (by omega) ?_))
    refine ih _ _ (h.wnext (by omega)) (by simpa using h1) (fun j j0 j1 => ?_)
    rw [w64 (by omega) (by omega)] at j1
    rw [rd_set _ _ _ _ g2 (by omega) j0]
    by_cases e : i = j
    · rw [if_pos e, e]
    · rw [if_neg e]; exact h2 j j0 (by omega)
theorem toIntS_ok (xs : List Int) (hl : xs.length ≤ 4000000) : EvS (fun k => laws_toIntS.f k xs) (· = xs) := by
  simp only [laws_toIntS.f]
  exact EvS.pos (by omega) (EvS.pos (by omega) (toIntS_l0 xs hl xs 0 _ (At.zero _) (by simp) (fun j j0 j1 => by omega)))
theorem eqIntS_l0 (xs : List Int) (hl : xs.length ≤ 4000000) (ys : List Int) : ∀ i : Int, At xs i ys → EvS (fun k => laws_eqIntS.l0 k xs xs i) (· = true) := by
  induction ys with
  | nil =>
    intro i h
    refine EvS.step (fun k => by rw [laws_eqIntS.l0]) ?_
    exact EvS.neg (by have := h.ge; omega) (EvS.now rfl)
  | cons y ys ih =>
    intro i h
    refine EvS.step (fun k => by rw [laws_eqIntS.l0]) ?_
    exact EvS.pos h.lt (EvS.pos h.nonneg (EvS.pos h.lt (EvS.pos (by simp) (ih _ (h.wnext (by omega))))))
theorem eqIntS_ok (xs : List Int) (hl : xs.length ≤ 4000000) : EvS (fun k => laws_eqIntS.f k xs xs) (· = true) := by
  simp only [laws_eqIntS.f]
  exact EvS.pos (by trivial) (eqIntS_l0 xs hl xs 0 (At.zero xs))
structure Marked (k : Int) (n : Nat) (m : List Int) : Prop where
  len : m.length = n
  val : ∀ j : Int, 0 ≤ j → j < n → rd m j = k + j
theorem markIntS_l0 (n : Nat) (hn : n ≤ 4000000) (k0 : Int) (h0 : 0 ≤ k0) (h1 : k0 ≤ 1099511627776) (d : Nat) : ∀ (i : Int) (m : List Int), i + d = n → 0 ≤ i → m.length = n → (∀ j : Int, 0 ≤ j → j < i → rd m j = k0 + j) →
    EvS (fun k => laws_markIntS.l0 k m (k0 + i) i) (fun r => r.1 = k0 + n ∧ Marked k0 n r.2) := by
  induction d with
  | zero =>
    intro i m e1 e2 e3 e4
    refine EvS.step (fun k => by rw [laws_markIntS.l0]) ?_
    exact EvS.neg (by omega) (EvS.now ⟨by dsimp only; omega, e3, fun j j0 j1 => e4 j j0 (by omega)⟩)
  | succ d ih =>
    intro i m e1 e2 e3 e4
    refine EvS.step (fun k => by rw [laws_markIntS.l0]) ?_
    refine EvS.pos (by omega) (EvS.pos e2 ?_)
    rw [w64 (x := k0 + i + 1) (by omega) (by omega), w64 (x := i + 1) (by omega) (by omega), show k0 + i + 1 = k0 + (i + 1) by omega]
    refine ih _ _ (by omega) (by omega) (by simpa using e3) (fun j j0 j1 => ?_)
    rw [rd_set _ _ _ _ e2 (by omega) j0]
    by_cases e : i = j
    · rw [if_pos e, e]
    · rw [if_neg e]; exact e4 j j0 (by omega)
theorem markIntS_ok (xs : List Int) (hl : xs.length ≤ 4000000) (k0 : Int) (h0 : 0 ≤ k0) (h1 : k0 ≤ 1099511627776) : EvS (fun k => laws_markIntS.f k xs k0) (fun r => r.1 = k0 + xs.length ∧ Marked k0 xs.length r.2) := by
  simp only [laws_markIntS.f]
  have := markIntS_l0 xs.length hl k0 h0 h1 xs.length 0 xs (by omega) (by omega) rfl (fun j j0 j1 => by omega)
  rw [show k0 + 0 = k0 by omega] at this
  exact this
/-! ## What an exact law asks of lists of the struct Share. -/
def cvShare (x : S59) : S57 := ⟨x.f0, x.f1⟩
theorem at_rdShare {xs ys : List S57} {i : Int} {y : S57} (h : At xs i (y :: ys)) : rd_T57 xs i = y := h.getD _
theorem at_rdLShare {xs ys : List S59} {i : Int} {y : S59} (h : At xs i (y :: ys)) : rd_T59 xs i = y := h.getD _
theorem rdShare_set (xs : List S57) (i j : Int) (v : S57) (h0 : 0 ≤ i) (h1 : i < xs.length) (h2 : 0 ≤ j) : rd_T57 (xs.set i.toNat v) j = if i = j then v else rd_T57 xs j := by
  unfold rd_T57
  rw [List.getD_eq_getElem?_getD, List.getElem?_set]
  by_cases c : i = j
  · subst c; rw [if_pos rfl, if_pos (by omega), if_pos rfl]; rfl
  · rw [if_neg (by omega), if_neg c, List.getD_eq_getElem?_getD]
theorem listShare_ext {xs ys : List S57} (hl : xs.length = ys.length) (h : ∀ i : Int, 0 ≤ i → i < xs.length → rd_T57 xs i = rd_T57 ys i) : xs = ys := by
  apply List.ext_getElem hl
  intro n h1 h2
  have := h n (by omega) (by omega)
  unfold rd_T57 at this
  simp only [Int.toNat_natCast] at this
  rw [List.getD_eq_getElem?_getD, List.getD_eq_getElem?_getD, List.getElem?_eq_getElem h1, List.getElem?_eq_getElem h2] at this
  exact this
theorem rdShare_map (xs : List S59) (i : Int) (h0 : 0 ≤ i) (h1 : i < xs.length) : rd_T57 (xs.map cvShare) i = cvShare (rd_T59 xs i) := by
  unfold rd_T57 rd_T59
  rw [List.getD_eq_getElem?_getD, List.getD_eq_getElem?_getD, List.getElem?_map, List.getElem?_eq_getElem (show i.toNat < xs.length by omega)]
  rfl
theorem szShare_eq (xs : List S59) (c : Int) (h0 : 0 ≤ c) (h1 : c ≤ 1048576) (hx : xs.length ≤ 9223372036854775807) : laws_szShareS.f xs c = some (if c - xs.length < 0 then -1 else c - xs.length) := by
  unfold laws_szShareS.f
  rw [w64 (x := c - (xs.length : Int)) (by omega) (by omega)]
  split <;> rfl
theorem toShareS_l0 (xs : List S59) (hl : xs.length ≤ 4000000) (ys : List S59) : ∀ (i : Int) (s : List S57), At xs i ys → s.length = xs.length → (∀ j : Int, 0 ≤ j → j < i → rd_T57 s j = cvShare (rd_T59 xs j)) → EvS (fun k => laws_toShareS.l0 k xs s i) (· = xs.map cvShare) := by
  induction ys with
  | nil =>
    intro i s h h1 h2
    have := h.ge
    refine EvS.step (fun k => by rw [laws_toShareS.l0]) ?_
    exact EvS.neg (by omega) (EvS.now (listShare_ext (by rw [List.length_map, h1]) (fun j j0 j1 => by rw [h2 j j0 (by omega), rdShare_map xs j j0 (by omega)])))
  | cons y ys ih =>
    intro i s h h1 h2
    have g1 := h.lt
    have g2 := h.nonneg
    refine EvS.step (fun k => by rw [laws_toShareS.l0]) ?_
    refine EvS.pos h.lt (EvS.pos h.nonneg (EvS.call (by unfold laws_toShare.f; rfl) (EvS.pos (by omega) ?_)))
    rw [at_rdLShare h, w64 (by omega) (by omega)]
    refine ih _ _ h.next (by simpa using h1) (fun j j0 j1 => ?_)
    rw [rdShare_set _ _ _ _ g2 (by omega) j0]
    by_cases e : i = j
    · subst e; rw [if_pos rfl, at_rdLShare h]; rfl
    · rw [if_neg e]; exact h2 j j0 (by omega)
theorem toShareS_ok (xs : List S59) (hl : xs.length ≤ 4000000) : EvS (fun k => laws_toShareS.f k xs) (· = xs.map cvShare) := by
  simp only [laws_toShareS.f]
  exact EvS.pos (by omega) (EvS.pos (by omega) (toShareS_l0 xs hl xs 0 _ (At.zero _) (by simp) (fun j j0 j1 => by omega)))
theorem eqShare_self (x : S57) : laws_eqShare.f x.f0 x.f1 x.f0 x.f1 = some true := by
  unfold laws_eqShare.f
  simp
theorem eqShareS_l0 (xs : List S57) (hl : xs.length ≤ 4000000) (ys : List S57) : ∀ i : Int, At xs i ys → EvS (fun k => laws_eqShareS.l0 k xs xs i) (· = true) := by
  induction ys with
  | nil =>
    intro i h
    refine EvS.step (fun k => by rw [laws_eqShareS.l0]) ?_
    exact EvS.neg (by have := h.ge; omega) (EvS.now rfl)
  | cons y ys ih =>
    intro i h
    refine EvS.step (fun k => by rw [laws_eqShareS.l0]) ?_
    exact EvS.pos h.lt (EvS.pos h.nonneg (EvS.pos h.lt (EvS.call (eqShare_self _) (EvS.pos rfl (ih _ (h.wnext (by omega)))))))
theorem eqShareS_ok (xs : List S57) (hl : xs.length ≤ 4000000) : EvS (fun k => laws_eqShareS.f k xs xs) (· = true) := by
  simp only [laws_eqShareS.f]
  exact EvS.pos (by trivial) (eqShareS_l0 xs hl xs 0 (At.zero xs))
structure MarkedShare (k : Int) (n : Nat) (m : List S57) : Prop where
  len : m.length = n
  val : ∀ j : Int, 0 ≤ j → j < n → rd_T57 m j = ⟨k + 2 * j, k + 2 * j + 1⟩
theorem markShareS_l0 (n : Nat) (hn : n ≤ 4000000) (k0 : Int) (h0 : 0 ≤ k0) (h1 : k0 ≤ 1099511627776) (d : Nat) : ∀ (i : Int) (m : List S57), i + d = n → 0 ≤ i → m.length = n → (∀ j : Int, 0 ≤ j → j < i → rd_T57 m j = ⟨k0 + 2 * j, k0 + 2 * j + 1⟩) →
    EvS (fun k => laws_markShareS.l0 k m (k0 + 2 * i) i) (fun r => r.1 = k0 + 2 * n ∧ MarkedShare k0 n r.2) := by
  induction d with
  | zero =>
    intro i m e1 e2 e3 e4
    refine EvS.step (fun k => by rw [laws_markShareS.l0]) ?_
    exact EvS.neg (by omega) (EvS.now ⟨by dsimp only; omega, e3, fun j j0 j1 => e4 j j0 (by omega)⟩)
  | succ d ih =>
    intro i m e1 e2 e3 e4
    have self : ∀ (l : List S57) (v : S57), l.length = n → rd_T57 (l.set i.toNat v) i = v := fun l v hl => by rw [rdShare_set _ _ _ _ e2 (by omega) e2, if_pos rfl]
    refine EvS.step (fun k => by rw [laws_markShareS.l0]) ?_
    refine EvS.pos (by omega) (EvS.pos e2 ?_)
    refine EvS.onsome (?_)
    simp only [List.set_set, self m _ e3]
    rw [w64 (x := k0 + 2 * i + 1) (by omega) (by omega), w64 (x := k0 + 2 * i + 1 + 1) (by omega) (by omega), w64 (x := i + 1) (by omega) (by omega)]
    rw [show k0 + 2 * i + 1 + 1 = k0 + 2 * (i + 1) by omega]
    refine ih _ _ (by omega) (by omega) (by simpa using e3) (fun j j0 j1 => ?_)
    rw [rdShare_set _ _ _ _ e2 (by omega) j0]
    by_cases e : i = j
    · subst e; rw [if_pos rfl]
    · rw [if_neg e]; exact e4 j j0 (by omega)
theorem markShareS_ok (xs : List S57) (hl : xs.length ≤ 4000000) (k0 : Int) (h0 : 0 ≤ k0) (h1 : k0 ≤ 1099511627776) : EvS (fun k => laws_markShareS.f k xs k0) (fun r => r.1 = k0 + 2 * xs.length ∧ MarkedShare k0 xs.length r.2) := by
  simp only [laws_markShareS.f]
  have := markShareS_l0 xs.length hl k0 h0 h1 xs.length 0 xs (by omega) (by omega) rfl (fun j j0 j1 => by omega)
  rw [show k0 + 2 * 0 = k0 by omega] at this
  exact this
theorem heldShareS_l0 (n : Nat) (hn : n ≤ 4000000) (k0 : Int) (h0 : 0 ≤ k0) (h1 : k0 ≤ 1099511627776) (m : List S57) (hm : MarkedShare k0 n m) (d : Nat) : ∀ i : Int, i + d = n → 0 ≤ i → EvS (fun k => laws_heldShareS.l0 k m (k0 + 2 * i) i) (· = k0 + 2 * n) := by
  have e3 := hm.len
  induction d with
  | zero =>
    intro i e1 e2
    refine EvS.step (fun k => by rw [laws_heldShareS.l0]) ?_
    exact EvS.neg (by omega) (EvS.now (by omega))
  | succ d ih =>
    intro i e1 e2
    have hv := hm.val i e2 (by omega)
    refine EvS.step (fun k => by rw [laws_heldShareS.l0]) ?_
    rw [hv]
    rw [w64 (x := k0 + 2 * i + 1) (by omega) (by omega), w64 (x := k0 + 2 * i + 1 + 1) (by omega) (by omega), w64 (x := i + 1) (by omega) (by omega)]
    refine EvS.pos (by omega) (EvS.pos e2 (EvS.pos (by first | rfl | (dsimp only; omega)) (EvS.pos (by first | rfl | (dsimp only; omega)) ?_)))
    rw [show k0 + 2 * i + 1 + 1 = k0 + 2 * (i + 1) by omega]
    exact ih _ (by omega) (by omega)
theorem heldShareS_ok (n : Nat) (hn : n ≤ 4000000) (k0 : Int) (h0 : 0 ≤ k0) (h1 : k0 ≤ 1099511627776) (m : List S57) (hm : MarkedShare k0 n m) : EvS (fun k => laws_heldShareS.f k m k0) (· = k0 + 2 * n) := by
  simp only [laws_heldShareS.f]
  have := heldShareS_l0 n hn k0 h0 h1 m hm n 0 (by omega) (by omega)
  rw [show k0 + 2 * 0 = k0 by omega] at this
  exact this
/-! ## Shares. -/
def VShs (l : List S57) : Prop := l.length ≤ 12 ∧ (l.map (·.f0)).Nodup ∧ ∀ e ∈ l, (1 ≤ e.f0 ∧ e.f0 ≤ 250) ∧ 0 ≤ e.f1 ∧ e.f1 ≤ 250
instance (l : List S57) : Decidable (VShs l) := by unfold VShs; infer_instance
theorem validRest_eq (n : Int) : spec_validRest.f n = some (decide (0 ≤ n ∧ n ≤ 250)) := by
  unfold spec_validRest.f
  rw [inRange_eq]; rfl
theorem nodup_snoc (pre : List Int) (y : Int) (ys : List Int) : (pre ++ y :: ys).Nodup ↔ y ∉ pre ∧ ((pre ++ [y]) ++ ys).Nodup := by
  rw [List.append_assoc, List.singleton_append]
  constructor
  · intro h
    refine ⟨fun hm => ?_, h⟩
    rw [List.nodup_append] at h
    exact h.2.2 y hm y List.mem_cons_self rfl
  · exact fun h => h.2
theorem validPlaces_l0 (xs : List Int) (hl : xs.length ≤ 2000000) (ys : List Int) : ∀ i : Int, At xs i ys → (xs.take i.toNat).Nodup → EvS (fun k => spec_validPlaces.l0 k xs i) (· = decide (xs.Nodup ∧ xs.length ≤ 12 ∧ AllW xs 1 250)) := by
  induction ys with
  | nil =>
    intro i h hd
    have hi := h.ge
    have hd' : xs.Nodup := by rwa [hi, Int.toNat_natCast, List.take_length] at hd
    refine EvS.step (fun k => by rw [spec_validPlaces.l0]) ?_
    refine EvS.neg (by omega) (EvS.ite (fun c => EvS.bindv (allIn_ok xs (by omega) 1 250) (EvS.now ?_)) (fun c => EvS.now ?_))
    · exact decide_eq_decide.2 ⟨fun g => ⟨hd', by omega, g⟩, fun g => g.2.2⟩
    · exact (decide_eq_false (fun g => by have := g.2.1; omega)).symm
  | cons y ys ih =>
    intro i h hd
    have h1 := h.lt
    have h2 := h.nonneg
    refine EvS.step (fun k => by rw [spec_validPlaces.l0]) ?_
    refine EvS.pos h.lt (EvS.pos h.nonneg (EvS.pos (by omega) ?_))
    rw [At.rd h, w64 (x := i + 1) (by omega) (by omega)]
    have hp := posF_nonneg y (xs.take i.toNat) 0 (by omega)
    refine EvS.bindv (placeIn_ok _ (by rw [List.length_take]; omega) y) (EvS.ite (fun c => EvS.now (decide_eq_false (fun g => ?_)).symm) (fun c => ?_))
    · have hs := h.split
      have hn := g.1
      rw [hs] at hn
      exact ((nodup_snoc _ _ _).1 hn).1 (hp.1 c)
    · refine ih _ h.next ?_
      rw [h.take, List.nodup_append]
      refine ⟨hd, by simp, fun a ha b hb e => ?_⟩
      rw [List.mem_singleton] at hb
      subst hb
      subst e
      exact c (hp.2 ha)
theorem validPlaces_ok (xs : List Int) (hl : xs.length ≤ 2000000) : EvS (fun k => spec_validPlaces.f k xs) (· = decide (xs.Nodup ∧ xs.length ≤ 12 ∧ AllW xs 1 250)) := by
  simp only [spec_validPlaces.f]
  exact validPlaces_l0 xs hl xs 0 (At.zero _) (by simp)
theorem spec_validShares_l0 (xs : List S57) (hl : xs.length ≤ 2000000) (ys : List S57) : ∀ i : Int, At xs i ys → (∀ e ∈ xs.take i.toNat, 0 ≤ e.f1 ∧ e.f1 ≤ 250) →
    EvS (fun k => spec_validShares.l0 k xs ((xs.take i.toNat).map (·.f0)) i) (· = decide (VShs xs)) := by
  induction ys with
  | nil =>
    intro i h hp
    have hi := h.ge
    rw [hi, Int.toNat_natCast, List.take_length] at hp ⊢
    refine EvS.step (fun k => by rw [spec_validShares.l0]) ?_
    refine EvS.neg (by omega) (EvS.bindv (validPlaces_ok _ (by rw [List.length_map]; exact hl)) (EvS.now ?_))
    refine decide_eq_decide.2 ⟨fun g => ⟨by have := g.2.1; rwa [List.length_map] at this, g.1, fun e he => ⟨g.2.2 e.f0 (List.mem_map_of_mem he), hp e he⟩⟩, fun g => ⟨g.2.1, by rw [List.length_map]; exact g.1, fun x hx => ?_⟩⟩
    obtain ⟨e, he, rfl⟩ := List.mem_map.1 hx
    exact (g.2.2 e he).1
  | cons y ys ih =>
    intro i h hp
    have h1 := h.lt
    have h2 := h.nonneg
    refine EvS.step (fun k => by rw [spec_validShares.l0]) ?_
    rw [at_rdShare h]
    refine EvS.pos h.lt (EvS.pos h.nonneg (EvS.call (validRest_eq _) (EvS.ite (fun c => EvS.pos (by rw [List.length_map, List.length_take]; omega) ?_) (fun c => EvS.now (decide_eq_false (fun g => ndec c (g.2.2 y h.mem).2)).symm))))
    have c := of_decide_eq_true c
    rw [w64 (x := i + 1) (by omega) (by omega)]
    have := ih (i + 1) h.next (fun e he => by
      rw [h.take] at he
      rcases List.mem_append.1 he with he | he
      · exact hp e he
      · rw [List.mem_singleton] at he; subst he; exact c)
    rw [h.take, List.map_append] at this
    exact this
theorem spec_validShares_ok (xs : List S57) (hl : xs.length ≤ 2000000) : EvS (fun k => spec_validShares.f k xs) (· = decide (VShs xs)) := by
  simp only [spec_validShares.f]
  exact spec_validShares_l0 xs hl xs 0 (At.zero _) (by simp)
theorem diff251 (xs : List Int) (h : AllW xs 1 250) : Diff xs 251 ↔ xs.Nodup :=
  ⟨fun g => g.1, fun g => ⟨g, fun x hx => by have := h x hx; omega⟩⟩
theorem impl_ValidShares_l0 (xs : List S57) (hl : xs.length ≤ 12) (ys : List S57) : ∀ i : Int, At xs i ys →
    EvS (fun k => impl_ValidShares.l0 k ((xs.take i.toNat).map (·.f0)) ((xs.take i.toNat).map (·.f1)) xs xs.length i) (· = decide (VShs xs)) := by
  induction ys with
  | nil =>
    intro i h
    have hi := h.ge
    rw [hi, Int.toNat_natCast, List.take_length]
    refine EvS.step (fun k => by rw [impl_ValidShares.l0]) ?_
    refine EvS.neg (by omega) (EvS.bindv (allWithin_ok _ (by rw [List.length_map]; omega) 1 250) (EvS.ite (fun c => EvS.bindv (differentBelow_ok _ (by rw [List.length_map]; omega) 251 (by omega) (by omega)) (EvS.ite (fun d => EvS.bindv (allWithin_ok _ (by rw [List.length_map]; omega) 0 250) (EvS.now ?_)) (fun d => EvS.now ?_))) (fun c => EvS.now ?_)))
    · have c := of_decide_eq_true c
      have d := of_decide_eq_true d
      refine decide_eq_decide.2 ⟨fun g => ⟨hl, d.1, fun e he => ⟨c _ (List.mem_map_of_mem he), g _ (List.mem_map_of_mem he)⟩⟩, fun g x hx => ?_⟩
      obtain ⟨e, he, rfl⟩ := List.mem_map.1 hx
      exact (g.2.2 e he).2
    · have c := of_decide_eq_true c
      exact (decide_eq_false (fun g => ndec d ((diff251 _ c).2 g.2.1))).symm
    · refine (decide_eq_false (fun g => ndec c (fun x hx => ?_))).symm
      obtain ⟨e, he, rfl⟩ := List.mem_map.1 hx
      exact (g.2.2 e he).1
  | cons y ys ih =>
    intro i h
    have h1 := h.lt
    have h2 := h.nonneg
    refine EvS.step (fun k => by rw [impl_ValidShares.l0]) ?_
    rw [at_rdShare h]
    refine EvS.pos h.lt (EvS.pos h.nonneg (EvS.pos h.lt (EvS.onsome (EvS.pos (by rw [List.length_map, List.length_take]; simp; omega) (EvS.onsome (EvS.pos (by rw [List.length_map, List.length_take]; simp; omega) ?_))))))
    rw [w64 (x := i + 1) (by omega) (by omega)]
    have := ih (i + 1) h.next
    rw [h.take, List.map_append, List.map_append] at this
    exact this
theorem impl_ValidShares_ok (xs : List S57) (hl : xs.length ≤ 2000000) : EvS (fun k => impl_ValidShares.f k xs) (· = decide (VShs xs)) := by
  simp only [impl_ValidShares.f]
  refine EvS.ite (fun c => EvS.now (decide_eq_false (fun g => by have := g.1; omega)).symm) (fun c => ?_)
  have := impl_ValidShares_l0 xs (by omega) xs 0 (At.zero _)
  exact this
/-! ## Values of polynomials. -/
open Go.Proofs.Ytnilffafnghngaa.Back (polyAns polyBack stepP)
def VPo (xs : List Int) : Prop := xs.length ≤ 8 ∧ AllW xs 0 250
instance (xs : List Int) : Decidable (VPo xs) := by unfold VPo; infer_instance
theorem spec_validPoly_ok (xs : List Int) (hl : xs.length ≤ 4000000) : EvS (fun k => spec_validPoly.f k xs) (· = decide (VPo xs)) := by
  simp only [spec_validPoly.f]
  exact EvS.ite (fun c => EvS.bindv (allIn_ok xs (by omega) 0 250) (EvS.now (decide_eq_decide.2 ⟨fun g => ⟨by omega, g⟩, fun g => g.2⟩))) (fun c => EvS.now (decide_eq_false (fun g => by have := g.1; omega)).symm)
theorem impl_validCoefs_ok (xs : List Int) (hl : xs.length ≤ 4000000) : EvS (fun k => impl_validCoefs.f k xs) (· = decide (VPo xs)) := by
  simp only [impl_validCoefs.f]
  exact EvS.ite (fun c => EvS.bindv (allWithin_ok xs (by omega) 0 250) (EvS.now (decide_eq_decide.2 ⟨fun g => ⟨by omega, g⟩, fun g => g.2⟩))) (fun c => EvS.now (decide_eq_false (fun g => by have := g.1; omega)).symm)
theorem take_snoc (xs : List Int) (n : Nat) (h : n < xs.length) : xs.take (n + 1) = xs.take n ++ [rd xs n] := by
  rw [List.take_add_one, List.getElem?_eq_getElem h]
  unfold rd
  rw [Int.toNat_natCast, List.getD_eq_getElem?_getD, List.getElem?_eq_getElem h]
  rfl
theorem spec_polyAt_l0 (xs : List Int) (x : Int) (hl : xs.length ≤ 4000000) : ∀ (n : Nat) (v : Int), n ≤ xs.length → EvS (fun k => spec_polyAt.l0 k xs x v ((n : Int) - 1)) (· = (xs.take n).reverse.foldl (stepP x) v) := by
  intro n
  induction n with
  | zero =>
    intro v h
    refine EvS.step (fun k => by rw [spec_polyAt.l0]) ?_
    exact EvS.neg (by omega) (EvS.now (by simp))
  | succ n ih =>
    intro v h
    refine EvS.step (fun k => by rw [spec_polyAt.l0]) ?_
    rw [show ((n + 1 : Nat) : Int) - 1 = n by omega, w64 (x := (n : Int) - 1) (by omega) (by omega), take_snoc xs n (by omega)]
    rw [List.reverse_append, List.foldl_append]
    exact EvS.pos (by omega) (EvS.pos (by omega) (EvS.pos (by omega) (ih _ (by omega))))
theorem spec_polyAt_ok (xs : List Int) (x : Int) (hl : xs.length ≤ 4000000) : EvS (fun k => spec_polyAt.f k xs x) (· = polyBack xs x) := by
  simp only [spec_polyAt.f]
  rw [w64 (x := (xs.length : Int) - 1) (by omega) (by omega)]
  have := spec_polyAt_l0 xs x hl xs.length 0 (Nat.le_refl _)
  rw [List.take_length] at this
  exact this
theorem impl_PolyAt_ok (xs : List Int) (x : Int) (hl : xs.length ≤ 4000000) (h : VPo xs) (h0 : 0 ≤ x) (h1 : x ≤ 250) : EvS (fun k => impl_PolyAt.f k xs x) (· = polyBack xs x) := by
  simp only [impl_PolyAt.f]
  refine EvS.bindv (impl_validCoefs_ok xs hl) (EvS.now ?_)
  rw [decide_eq_true h]
  unfold polyAns
  rw [if_pos rfl, if_neg (by omega), if_neg (by omega)]
/-! ## Shares anew. -/
def frsh (coefs : List Int) (s : S57) : S57 := ⟨s.f0, Int.tmod (wrap64 (s.f1 + polyBack coefs s.f0)) 251⟩
def fresh (l : List S57) (more : List Int) : List S57 := if VShs l ∧ VPo (0 :: more) then l.map (frsh (0 :: more)) else []
theorem fresh_len (l : List S57) (more : List Int) : (fresh l more).length ≤ 12 := by
  unfold fresh
  split
  · rename_i h; rw [List.length_map]; exact h.1.1
  · simp
theorem spec_fresh_l0 (coefs : List Int) (xs : List S57) (hc : coefs.length ≤ 4000000) (hl : xs.length ≤ 4000000) (ys : List S57) : ∀ i : Int, At xs i ys → EvS (fun k => spec_RefreshShares.l0 k xs coefs ((xs.take i.toNat).map (frsh coefs)) i) (· = xs.map (frsh coefs)) := by
  induction ys with
  | nil =>
    intro i h
    have hi := h.ge
    rw [hi, Int.toNat_natCast, List.take_length]
    refine EvS.step (fun k => by rw [spec_RefreshShares.l0]) ?_
    exact EvS.neg (by omega) (EvS.now rfl)
  | cons y ys ih =>
    intro i h
    have h1 := h.lt
    have h2 := h.nonneg
    refine EvS.step (fun k => by rw [spec_RefreshShares.l0]) ?_
    rw [at_rdShare h, w64 (x := i + 1) (by omega) (by omega)]
    refine EvS.pos h.lt (EvS.pos h.nonneg (EvS.bindv (spec_polyAt_ok coefs _ hc) (EvS.pos (by rw [List.length_map, List.length_take]; omega) ?_)))
    have := ih (i + 1) h.next
    rw [h.take, List.map_append] at this
    exact this
theorem spec_RefreshShares_ok (l : List S57) (more : List Int) (hc : more.length ≤ 3000000) (hl : l.length ≤ 2000000) : EvS (fun k => spec_RefreshShares.f k l more) (· = fresh l more) := by
  have no : ¬ (VShs l ∧ VPo (0 :: more)) → EvS (fun k => spec_RefreshShares.j0 k l (0 :: more) true) (· = fresh l more) := fun g => by
    refine EvS.step (fun k => by rw [spec_RefreshShares.j0]) ?_
    exact EvS.pos rfl (EvS.now (by unfold fresh; rw [if_neg g]))
  simp only [spec_RefreshShares.f]
  refine EvS.onsome (EvS.pos (by simp; omega) (EvS.onsome ?_))
  refine EvS.bindv (spec_validShares_ok l hl) (EvS.ite (fun c => ?_) (fun c => no (fun g => ndec c g.1)))
  refine EvS.bindv (spec_validPoly_ok (0 :: more) (by simp; omega)) ?_
  by_cases d : VPo (0 :: more)
  · rw [decide_eq_true d]
    refine EvS.step (fun k => by rw [spec_RefreshShares.j0]) ?_
    refine EvS.neg (by simp) ?_
    unfold fresh
    rw [if_pos ⟨of_decide_eq_true c, d⟩]
    exact spec_fresh_l0 (0 :: more) l (by simp; omega) (by omega) l 0 (At.zero _)
  · rw [decide_eq_false d]
    exact no (fun g => d g.2)
theorem impl_fresh_l0 (coefs : List Int) (xs : List S57) (hc : VPo coefs) (hx : VShs xs) (ys : List S57) : ∀ i : Int, At xs i ys → EvS (fun k => impl_RefreshShares.l0 k coefs ((xs.take i.toNat).map (frsh coefs)) xs xs.length i) (· = xs.map (frsh coefs)) := by
  have hl := hx.1
  have hcl := hc.1
  induction ys with
  | nil =>
    intro i h
    have hi := h.ge
    rw [hi, Int.toNat_natCast, List.take_length]
    refine EvS.step (fun k => by rw [impl_RefreshShares.l0]) ?_
    exact EvS.neg (by omega) (EvS.now rfl)
  | cons y ys ih =>
    intro i h
    have h1 := h.lt
    have h2 := h.nonneg
    have h3 := (hx.2.2 y h.mem).1
    refine EvS.step (fun k => by rw [impl_RefreshShares.l0]) ?_
    rw [at_rdShare h, w64 (x := i + 1) (by omega) (by omega)]
    refine EvS.pos h.lt (EvS.pos h.nonneg (EvS.pos h.lt (EvS.bindv (impl_PolyAt_ok coefs _ (by omega) hc (by omega) (by omega)) (EvS.pos (by rw [List.length_map, List.length_take]; omega) ?_))))
    have := ih (i + 1) h.next
    rw [h.take, List.map_append] at this
    exact this
theorem impl_RefreshShares_ok (l : List S57) (more : List Int) (hc : more.length ≤ 3000000) (hl : l.length ≤ 2000000) : EvS (fun k => impl_RefreshShares.f k l more) (· = fresh l more) := by
  have no : ¬ (VShs l ∧ VPo (0 :: more)) → EvS (fun k => impl_RefreshShares.j0 k l more true) (· = fresh l more) := fun g => by
    refine EvS.step (fun k => by rw [impl_RefreshShares.j0]) ?_
    exact EvS.pos rfl (EvS.now (by unfold fresh; rw [if_neg g]))
  simp only [impl_RefreshShares.f]
  refine EvS.bindv (impl_ValidShares_ok l hl) (EvS.ite (fun c => ?_) (fun c => no (fun g => ndec c g.1)))
  have c := of_decide_eq_true c
  refine EvS.ite (fun d => no (fun g => by have := g.2.1; simp at this; omega)) (fun d => ?_)
  refine EvS.bindv (allWithin_ok more (by omega) 0 250) ?_
  by_cases e : AllW more 0 250
  · have hv : VPo (0 :: more) := ⟨by simp; omega, (allW_cons _ _ _ _).2 ⟨by omega, e⟩⟩
    rw [decide_eq_true e]
    refine EvS.step (fun k => by rw [impl_RefreshShares.j0]) ?_
    refine EvS.neg (by simp) (EvS.onsome (EvS.pos (by simp; omega) ?_))
    unfold fresh
    rw [if_pos ⟨c, hv⟩]
    exact impl_fresh_l0 (0 :: more) l hv c l 0 (At.zero _)
  · rw [decide_eq_false e]
    exact no (fun g => e ((allW_cons _ _ _ _).1 g.2.2).2)
def G59 (x : S59) : Prop := ((Lit.int .i64 x.f0).wf = true) ∧ ((Lit.int .i64 x.f1).wf = true)
theorem FnExactRefreshShares (l0 : List S59) (g0 : l0.length ≤ 9223372036854775807 ∧ ∀ y0 ∈ l0, G59 y0) (l1 : List Int) (g1 : l1.length ≤ 9223372036854775807 ∧ ∀ y0 ∈ l1, (Lit.int .i64 y0).wf = true) : ∃ k, laws_FnExactRefreshShares.f k l0 l1 = some true := by
  refine EvS.holds ?_
  simp only [laws_FnExactRefreshShares.f]
  refine EvS.ite (fun _ => EvS.now rfl) (fun c1 => ?_)
  refine EvS.call (szShare_eq l0 1048576 (by omega) (by omega) g0.1) ?_
  by_cases c : (1048576 : Int) - l0.length < 0
  · rw [if_pos c]; exact EvS.pos (by omega) (EvS.now rfl)
  · rw [if_neg c]
    have to0 := toShareS_ok l0 (by omega)
    have to1 := toIntS_ok l1 (by omega)
    have hm0 : (l0.map cvShare).length = l0.length := List.length_map _
    have hv := fresh_len (l0.map cvShare) l1
    have ii := impl_RefreshShares_ok (l0.map cvShare) l1 (by omega) (by omega)
    have he := eqShareS_ok (fresh (l0.map cvShare) l1) (by omega)
    refine EvS.neg c (EvS.bindv to0 (EvS.bindv to1 (EvS.bindv (spec_RefreshShares_ok _ _ (by omega) (by omega)) (EvS.bindv to0 (EvS.bindv to1 (EvS.bindv ii (EvS.bindv he (EvS.pos rfl (EvS.bindv to0 (EvS.bindv (eqShareS_ok _ (by omega)) (EvS.pos rfl (EvS.bindv to1 (EvS.bindv (eqIntS_ok _ (by omega)) (EvS.pos rfl ?_))))))))))))))
    refine EvS.bind (markShareS_ok _ (by omega) 1 (by omega) (by omega)) (fun m1 hm1' => ?_)
    have e1 := hm1'.1
    refine EvS.bind (markIntS_ok _ (by omega) m1.1 (by omega) (by omega)) (fun m2 hm2' => ?_)
    have e2 := hm2'.1
    refine EvS.neg (by omega) (EvS.bindv he ?_)
    refine EvS.step (fun k => by rw [laws_FnExactRefreshShares.j0]) ?_
    refine EvS.neg (by simp) (EvS.bind (markShareS_ok _ (by omega) 1 (by omega) (by omega)) (fun m3 hm3 => ?_))
    have hd := heldShareS_ok _ (by omega) 1 (by omega) (by omega) m3.2 hm3.2
    rw [← hm3.1] at hd
    have e3 := hm3.1
    refine EvS.bindv hd (EvS.neg (by omega) (EvS.pos rfl (EvS.bindv to0 (EvS.bindv to1 (EvS.bindv ii (EvS.bindv he (EvS.pos rfl (EvS.bindv hd (EvS.neg (by omega) (EvS.pos rfl (EvS.now rfl)))))))))))
end Go.Proofs.Ytnilffafnghngaa.Pure
