/- OpenSecret is what the reference tells, for all shares: Newton's polynomial and Lagrange's are one mod 251. Conditions: none. -/
import Derived.Test.YtnilffafnghngaaMFnExactOpenSecretx0
import Derived.Test.YtnilffafnghngaaMFnExactOpenSecretx1
import Derived.Test.YtnilffafnghngaaMFnExactOpenSecretx2
import Derived.Test.YtnilffafnghngaaMFnExactOpenSecretx3
import Derived.Test.YtnilffafnghngaaMFnExactOpenSecretx4
import Derived.Test.YtnilffafnghngaaMFnExactOpenSecretx5
import Derived.Test.YtnilffafnghngaaMFnExactOpenSecretx6
import Derived.Test.YtnilffafnghngaaBase
set_option linter.unusedVariables false
set_option linter.unusedSimpArgs false
namespace Go.Proofs.Ytnilffafnghngaa.Pure
open Go.RowKit Go.Proofs.Ytnilffafnghngaa.PFnExactOpenSecret Go.Proofs.YtnilffafnghngaaW.PrintWords Go.Proofs.YtnilffafnghngaaW.PrintLast Go.Proofs.YtnilffafnghngaaW.PrintMore Go.Proofs.Ytnilffafnghngaa.Base
theorem u8_range {x : Int} (h : (Lit.int .u8 x).wf = true) : 0 ≤ x ∧ x ≤ 255 := by
  simp [Lit.wf, IntKind.min, IntKind.max, IntKind.bits, IntKind.signed] at h
  omega
/-! ## Lists of numbers. -/
theorem inRange_eq (n lo hi : Int) : spec_inRange.f n lo hi = some (decide (lo ≤ n ∧ n ≤ hi)) := by
  unfold spec_inRange.f
  split
  · exact congrArg some (decide_eq_decide.2 (by omega))
  · exact congrArg some (decide_eq_false (by omega)).symm
def AllW (xs : List Int) (lo hi : Int) : Prop := ∀ x ∈ xs, lo ≤ x ∧ x ≤ hi
instance (xs : List Int) (lo hi : Int) : Decidable (AllW xs lo hi) := by unfold AllW; infer_instance
theorem allW_cons (y : Int) (ys : List Int) (lo hi : Int) : AllW (y :: ys) lo hi ↔ (lo ≤ y ∧ y ≤ hi) ∧ AllW ys lo hi := by
  unfold AllW; simp
theorem allWithin_l0 (xs : List Int) (hl : xs.length ≤ 1099511627776) (lo hi : Int) (ys : List Int) : ∀ i : Int, At xs i ys → EvS (fun k => impl_allWithin.l0 k lo hi xs xs.length i) (· = decide (AllW ys lo hi)) := by
  induction ys with
  | nil =>
    intro i h
    refine EvS.step (fun k => by rw [impl_allWithin.l0]) ?_
    exact EvS.neg (by have := h.ge; omega) (EvS.now (by simp [AllW]))
  | cons y ys ih =>
    intro i h
    refine EvS.step (fun k => by rw [impl_allWithin.l0]) ?_
    refine EvS.pos h.lt (EvS.pos h.nonneg (EvS.pos h.lt ?_))
    rw [At.rd h]
    refine EvS.ite (fun c => EvS.now (decide_eq_false (fun g => by have := (allW_cons _ _ _ _).1 g; omega)).symm) (fun c1 => EvS.ite (fun c => EvS.now (decide_eq_false (fun g => by have := (allW_cons _ _ _ _).1 g; omega)).symm) (fun c2 => ?_))
    refine EvS.mono (ih _ (h.wnext (by omega))) (fun r hr => ?_)
    rw [hr]
    exact decide_eq_decide.2 ⟨fun g => (allW_cons _ _ _ _).2 ⟨by omega, g⟩, fun g => ((allW_cons _ _ _ _).1 g).2⟩
theorem allWithin_ok (xs : List Int) (hl : xs.length ≤ 1099511627776) (lo hi : Int) : EvS (fun k => impl_allWithin.f k xs lo hi) (· = decide (AllW xs lo hi)) := by
  simp only [impl_allWithin.f]
  exact allWithin_l0 xs hl lo hi xs 0 (At.zero xs)
theorem allIn_l0 (xs : List Int) (hl : xs.length ≤ 1099511627776) (lo hi : Int) (ys : List Int) : ∀ i : Int, At xs i ys → EvS (fun k => spec_allIn.l0 k xs lo hi i) (· = decide (AllW ys lo hi)) := by
  induction ys with
  | nil =>
    intro i h
    refine EvS.step (fun k => by rw [spec_allIn.l0]) ?_
    exact EvS.neg (by have := h.ge; omega) (EvS.now (by simp [AllW]))
  | cons y ys ih =>
    intro i h
    refine EvS.step (fun k => by rw [spec_allIn.l0]) ?_
    refine EvS.pos h.lt (EvS.pos h.nonneg ?_)
    rw [At.rd h]
    refine EvS.call (inRange_eq _ _ _) (EvS.ite (fun c => ?_) (fun c => EvS.now ?_))
    · have c := of_decide_eq_true c
      refine EvS.mono (ih _ (h.wnext (by omega))) (fun r hr => ?_)
      rw [hr]
      exact decide_eq_decide.2 ⟨fun g => (allW_cons _ _ _ _).2 ⟨by omega, g⟩, fun g => ((allW_cons _ _ _ _).1 g).2⟩
    · have c := ndec c
      exact (decide_eq_false (fun g => c ((allW_cons _ _ _ _).1 g).1)).symm
theorem allIn_ok (xs : List Int) (hl : xs.length ≤ 1099511627776) (lo hi : Int) : EvS (fun k => spec_allIn.f k xs lo hi) (· = decide (AllW xs lo hi)) := by
  simp only [spec_allIn.f]
  exact allIn_l0 xs hl lo hi xs 0 (At.zero xs)
/-- The first place of a number, counted from i on; -1 if it is not there. -/
def posF (v : Int) : Int → List Int → Int
  | _, [] => -1
  | i, x :: xs => if x = v then i else posF v (i + 1) xs
theorem posF_range (v : Int) (xs : List Int) : ∀ i : Int, 0 ≤ i → (v ∈ xs → i ≤ posF v i xs ∧ posF v i xs < i + xs.length) ∧ (v ∉ xs → posF v i xs = -1) := by
  induction xs with
  | nil => intro i h0; exact ⟨fun h => by simp at h, fun _ => rfl⟩
  | cons x xs ih =>
    intro i h0
    have h := ih (i + 1) (by omega)
    simp only [posF, List.length_cons]
    by_cases c : x = v
    · rw [if_pos c]; exact ⟨fun _ => by omega, fun g => absurd (by simp [c]) g⟩
    · rw [if_neg c]
      refine ⟨fun g => ?_, fun g => h.2 (fun g2 => g (List.mem_cons_of_mem _ g2))⟩
      have := h.1 ((List.mem_cons.1 g).resolve_left (fun e => c e.symm))
      omega
theorem posF_nonneg (v : Int) (xs : List Int) (i : Int) (h : 0 ≤ i) : (0 ≤ posF v i xs) ↔ v ∈ xs := by
  by_cases c : v ∈ xs
  · have := (posF_range v xs i h).1 c; exact ⟨fun _ => c, fun _ => by omega⟩
  · have := (posF_range v xs i h).2 c; exact ⟨fun g => by omega, fun g => absurd g c⟩
theorem placeIn_l0 (xs : List Int) (hl : xs.length ≤ 1099511627776) (v : Int) (ys : List Int) : ∀ i : Int, At xs i ys → EvS (fun k => spec_placeIn.l0 k xs v i) (· = posF v i ys) := by
  induction ys with
  | nil =>
    intro i h
    refine EvS.step (fun k => by rw [spec_placeIn.l0]) ?_
    exact EvS.neg (by have := h.ge; omega) (EvS.now rfl)
  | cons y ys ih =>
    intro i h
    have h1 := h.lt
    have h2 := h.nonneg
    have hw : wrap64 (i + 1) = i + 1 := w64 (by omega) (by omega)
    refine EvS.step (fun k => by rw [spec_placeIn.l0]) ?_
    refine EvS.pos h.lt (EvS.pos h.nonneg ?_)
    rw [At.rd h, hw, posF]
    by_cases c : y = v
    · rw [if_pos c]; exact EvS.pos c (EvS.now rfl)
    · rw [if_neg c]; exact EvS.neg c (ih _ h.next)
theorem placeIn_ok (xs : List Int) (hl : xs.length ≤ 1099511627776) (v : Int) : EvS (fun k => spec_placeIn.f k xs v) (· = posF v 0 xs) := by
  simp only [spec_placeIn.f]
  exact placeIn_l0 xs hl v xs 0 (At.zero xs)
/-- Different numbers from 0 to n - 1. -/
def Diff (xs : List Int) (n : Int) : Prop := xs.Nodup ∧ ∀ x ∈ xs, 0 ≤ x ∧ x < n
instance (xs : List Int) (n : Int) : Decidable (Diff xs n) := by unfold Diff; infer_instance
def DiffF (pre ys : List Int) (n : Int) : Prop := ys.Nodup ∧ ∀ y ∈ ys, 0 ≤ y ∧ y < n ∧ y ∉ pre
instance (pre ys : List Int) (n : Int) : Decidable (DiffF pre ys n) := by unfold DiffF; infer_instance
theorem diffF_cons (pre : List Int) (y : Int) (ys : List Int) (n : Int) : DiffF pre (y :: ys) n ↔ (0 ≤ y ∧ y < n ∧ y ∉ pre) ∧ DiffF (y :: pre) ys n := by
  unfold DiffF
  constructor
  · rintro ⟨h1, h2⟩
    have h1 := List.nodup_cons.1 h1
    refine ⟨h2 y List.mem_cons_self, h1.2, fun z hz => ?_⟩
    have := h2 z (List.mem_cons_of_mem _ hz)
    refine ⟨this.1, this.2.1, fun hm => ?_⟩
    rcases List.mem_cons.1 hm with rfl | hm
    · exact h1.1 hz
    · exact this.2.2 hm
  · rintro ⟨h1, h2, h3⟩
    refine ⟨List.nodup_cons.2 ⟨fun hm => (h3 y hm).2.2 List.mem_cons_self, h2⟩, fun z hz => ?_⟩
    rcases List.mem_cons.1 hz with rfl | hz
    · exact h1
    · have := h3 z hz
      exact ⟨this.1, this.2.1, fun hm => this.2.2 (List.mem_cons_of_mem _ hm)⟩
theorem diffF_congr {p q ys : List Int} {n : Int} (h : ∀ x, x ∈ p ↔ x ∈ q) : DiffF p ys n ↔ DiffF q ys n := by
  unfold DiffF
  simp only [h]
theorem diffF_nil (xs : List Int) (n : Int) : DiffF [] xs n ↔ Diff xs n := by
  unfold DiffF Diff; simp
theorem diff_len {xs : List Int} {n : Int} (h : Diff xs n) : (xs.length : Int) ≤ n ∨ xs = [] := by
  rcases xs with _ | ⟨x, xs⟩
  · exact .inr rfl
  · left
    have h1 : 0 ≤ n := by have := h.2 x List.mem_cons_self; omega
    have h2 : (x :: xs) ⊆ (List.range n.toNat).map (fun m : Nat => (m : Int)) := by
      intro y hy
      have := h.2 y hy
      exact List.mem_map.2 ⟨y.toNat, List.mem_range.2 (by omega), by omega⟩
    have h3 := h.1.length_le_of_subset h2
    rw [List.length_map, List.length_range] at h3
    omega
theorem differentBelow_l0 (xs : List Int) (hl : xs.length ≤ 1099511627776) (n : Int) (ys : List Int) : ∀ (i : Int) (seen : List Bool) (pre : List Int), At xs i ys → (seen.length : Int) = n → (∀ v : Int, 0 ≤ v → v < n → (rdOf false seen v = true ↔ v ∈ pre)) →
    EvS (fun k => impl_differentBelow.l0 k n seen xs xs.length i) (· = decide (DiffF pre ys n)) := by
  induction ys with
  | nil =>
    intro i seen pre h hs hv
    refine EvS.step (fun k => by rw [impl_differentBelow.l0]) ?_
    exact EvS.neg (by have := h.ge; omega) (EvS.now (by simp [DiffF]))
  | cons y ys ih =>
    intro i seen pre h hs hv
    refine EvS.step (fun k => by rw [impl_differentBelow.l0]) ?_
    refine EvS.pos h.lt (EvS.pos h.nonneg (EvS.pos h.lt ?_))
    rw [At.rd h]
    refine EvS.ite (fun c => EvS.now (decide_eq_false (fun g => by have := ((diffF_cons _ _ _ _).1 g).1; omega)).symm) (fun c1 => EvS.ite (fun c => EvS.now (decide_eq_false (fun g => by have := ((diffF_cons _ _ _ _).1 g).1; omega)).symm) (fun c2 => EvS.pos (by omega) (EvS.pos (by omega) ?_)))
    have hy := hv y (by omega) (by omega)
    refine EvS.ite (fun c => EvS.now (decide_eq_false (fun g => ((diffF_cons _ _ _ _).1 g).1.2.2 (hy.1 c))).symm) (fun c3 => ?_)
    refine EvS.mono (ih _ (seen.set y.toNat true) (y :: pre) (h.wnext (by omega)) (by simpa using hs) (fun v h0 h1 => ?_)) (fun r hr => ?_)
    · unfold rdOf
      rw [List.getD_eq_getElem?_getD, List.getElem?_set]
      by_cases e : y = v
      · subst e
        rw [if_pos rfl, if_pos (by omega)]
        exact ⟨fun _ => List.mem_cons_self, fun _ => rfl⟩
      · rw [if_neg (by omega)]
        have := hv v h0 h1
        unfold rdOf at this
        rw [List.getD_eq_getElem?_getD] at this
        rw [this, List.mem_cons]
        exact ⟨fun g => .inr g, fun g => g.resolve_left (fun e2 => e e2.symm)⟩
    · rw [hr]
      exact decide_eq_decide.2 ⟨fun g => (diffF_cons _ _ _ _).2 ⟨⟨by omega, by omega, fun hm => c3 (hy.2 hm)⟩, g⟩, fun g => ((diffF_cons _ _ _ _).1 g).2⟩
theorem differentBelow_ok (xs : List Int) (hl : xs.length ≤ 1099511627776) (n : Int) (hn : n ≤ 1099511627776) (h0 : 0 ≤ n) : EvS (fun k => impl_differentBelow.f k xs n) (· = decide (Diff xs n)) := by
  simp only [impl_differentBelow.f]
  refine EvS.ite (fun c => EvS.now (decide_eq_false (fun g => ?_)).symm) (fun c => EvS.pos h0 (EvS.pos (by omega) ?_))
  · rcases diff_len g with h | h
    · omega
    · subst h; simp at c; omega
  · refine EvS.mono (differentBelow_l0 xs hl n xs 0 _ [] (At.zero xs) (by simp; omega) (fun v _ _ => ?_)) (fun r hr => ?_)
    · unfold rdOf
      rw [List.getD_eq_getElem?_getD, List.getElem?_replicate]
      split <;> simp
    · rw [hr]
      exact decide_eq_decide.2 (diffF_nil xs n)
/-! ## Amounts divided into equal parts. -/
theorem list_ext {xs ys : List Int} (hl : xs.length = ys.length) (h : ∀ i : Int, 0 ≤ i → i < xs.length → rd xs i = rd ys i) : xs = ys := by
  apply List.ext_getElem hl
  intro n h1 h2
  have := h n (by omega) (by omega)
  unfold rd at this
  simp only [Int.toNat_natCast] at this
  rw [List.getD_eq_getElem?_getD, List.getD_eq_getElem?_getD, List.getElem?_eq_getElem h1, List.getElem?_eq_getElem h2] at this
  exact this
theorem rd_set (xs : List Int) (i j v : Int) (h0 : 0 ≤ i) (h1 : i < xs.length) (h2 : 0 ≤ j) : rd (xs.set i.toNat v) j = if i = j then v else rd xs j := by
  unfold rd
  rw [List.getD_eq_getElem?_getD, List.getElem?_set]
  by_cases c : i = j
  · subst c; rw [if_pos rfl, if_pos (by omega), if_pos rfl]; rfl
  · rw [if_neg (by omega), if_neg c, List.getD_eq_getElem?_getD]
theorem rd_zeros (n : Nat) (j : Int) : rd (List.replicate n 0) j = 0 := by
  unfold rd
  rw [List.getD_eq_getElem?_getD, List.getElem?_replicate]
  split <;> rfl
theorem rd_snoc (xs : List Int) (v j : Int) (h0 : 0 ≤ j) : rd (xs ++ [v]) j = if j < xs.length then rd xs j else if j = xs.length then v else 0 := by
  unfold rd
  rw [List.getD_eq_getElem?_getD, List.getD_eq_getElem?_getD]
  by_cases c : j < xs.length
  · rw [if_pos c, List.getElem?_append_left (by omega)]
  · rw [if_neg c, List.getElem?_append_right (by omega)]
    by_cases c2 : j = xs.length
    · rw [if_pos c2, c2]; simp
    · rw [if_neg c2, List.getElem?_eq_none (by simp; omega)]; rfl
/-! ## What an exact law asks of lists of the struct Share. -/
def cvShare (x : S59) : S57 := ⟨x.f0, x.f1⟩
theorem at_rdShare {xs ys : List S57} {i : Int} {y : S57} (h : At xs i (y :: ys)) : rd_T57 xs i = y := h.getD _
theorem at_rdLShare {xs ys : List S59} {i : Int} {y : S59} (h : At xs i (y :: ys)) : rd_T59 xs i = y := h.getD _
theorem rdShare_set (xs : List S57) (i j : Int) (v : S57) (h0 : 0 ≤ i) (h1 : i < xs.length) (h2 : 0 ≤ j) : rd_T57 (xs.set i.toNat v) j = if i = j then v else rd_T57 xs j := by
  unfold rd_T57
  rw [List.getD_eq_getElem?_getD, List.getElem?_set]
  by_cases c : i = j
  · subst c; rw [if_pos rfl, if_pos (by omega), if_pos rfl]; rfl
  · rw [if_neg (by omega), if_neg c, List.getD_eq_getElem?_getD]
theorem listShare_ext {xs ys : List S57} (hl : xs.length = ys.length) (h : ∀ i : Int, 0 ≤ i → i < xs.length → rd_T57 xs i = rd_T57 ys i) : xs = ys := by
  apply List.ext_getElem hl
  intro n h1 h2
  have := h n (by omega) (by omega)
  unfold rd_T57 at this
  simp only [Int.toNat_natCast] at this
  rw [List.getD_eq_getElem?_getD, List.getD_eq_getElem?_getD, List.getElem?_eq_getElem h1, List.getElem?_eq_getElem h2] at this
  exact this
theorem rdShare_map (xs : List S59) (i : Int) (h0 : 0 ≤ i) (h1 : i < xs.length) : rd_T57 (xs.map cvShare) i = cvShare (rd_T59 xs i) := by
  unfold rd_T57 rd_T59
  rw [List.getD_eq_getElem?_getD, List.getD_eq_getElem?_getD, List.getElem?_map, List.getElem?_eq_getElem (show i.toNat < xs.length by omega)]
  rfl
theorem szShare_eq (xs : List S59) (c : Int) (h0 : 0 ≤ c) (h1 : c ≤ 1048576) (hx : xs.length ≤ 9223372036854775807) : laws_szShareS.f xs c = some (if c - xs.length < 0 then -1 else c - xs.length) := by
  unfold laws_szShareS.f
  rw [w64 (x := c - (xs.length : Int)) (by omega) (by omega)]
  split <;> rfl
theorem toShareS_l0 (xs : List S59) (hl : xs.length ≤ 4000000) (ys : List S59) : ∀ (i : Int) (s : List S57), At xs i ys → s.length = xs.length → (∀ j : Int, 0 ≤ j → j < i → rd_T57 s j = cvShare (rd_T59 xs j)) → EvS (fun k => laws_toShareS.l0 k xs s i) (· = xs.map cvShare) := by
  induction ys with
  | nil =>
    intro i s h h1 h2
    have := h.ge
    refine EvS.step (fun k => by rw [laws_toShareS.l0]) ?_
    exact EvS.neg (by omega) (EvS.now (listShare_ext (by rw [List.length_map, h1]) (fun j j0 j1 => by rw [h2 j j0 (by omega), rdShare_map xs j j0 (by omega)])))
  | cons y ys ih =>
    intro i s h h1 h2
    have g1 := h.lt
    have g2 := h.nonneg
    refine EvS.step (fun k => by rw [laws_toShareS.l0]) ?_
    refine EvS.pos h.lt (EvS.pos h.nonneg (EvS.call (by unfold laws_toShare.f; rfl) (EvS.pos (by omega) ?_)))
    rw [at_rdLShare h, w64 (by omega) (by omega)]
    refine ih _ _ h.next (by simpa using h1) (fun j j0 j1 => ?_)
    rw [rdShare_set _ _ _ _ g2 (by omega) j0]
    by_cases e : i = j
    · subst e; rw [if_pos rfl, at_rdLShare h]; rfl
    · rw [if_neg e]; exact h2 j j0 (by omega)
theorem toShareS_ok (xs : List S59) (hl : xs.length ≤ 4000000) : EvS (fun k => laws_toShareS.f k xs) (· = xs.map cvShare) := by
  simp only [laws_toShareS.f]
  exact EvS.pos (by omega) (EvS.pos (by omega) (toShareS_l0 xs hl xs 0 _ (At.zero _) (by simp) (fun j j0 j1 => by omega)))
theorem eqShare_self (x : S57) : laws_eqShare.f x.f0 x.f1 x.f0 x.f1 = some true := by
  unfold laws_eqShare.f
  simp
theorem eqShareS_l0 (xs : List S57) (hl : xs.length ≤ 4000000) (ys : List S57) : ∀ i : Int, At xs i ys → EvS (fun k => laws_eqShareS.l0 k xs xs i) (· = true) := by
  induction ys with
  | nil =>
    intro i h
    refine EvS.step (fun k => by rw [laws_eqShareS.l0]) ?_
    exact EvS.neg (by have := h.ge; omega) (EvS.now rfl)
  | cons y ys ih =>
    intro i h
    refine EvS.step (fun k => by rw [laws_eqShareS.l0]) ?_
    exact EvS.pos h.lt (EvS.pos h.nonneg (EvS.pos h.lt (EvS.call (eqShare_self _) (EvS.pos rfl (ih _ (h.wnext (by omega)))))))
theorem eqShareS_ok (xs : List S57) (hl : xs.length ≤ 4000000) : EvS (fun k => laws_eqShareS.f k xs xs) (· = true) := by
  simp only [laws_eqShareS.f]
  exact EvS.pos (by trivial) (eqShareS_l0 xs hl xs 0 (At.zero xs))
structure MarkedShare (k : Int) (n : Nat) (m : List S57) : Prop where
  len : m.length = n
  val : ∀ j : Int, 0 ≤ j → j < n → rd_T57 m j = ⟨k + 2 * j, k + 2 * j + 1⟩
/-! ## Shares. -/
def VShs (l : List S57) : Prop := l.length ≤ 12 ∧ (l.map (·.f0)).Nodup ∧ ∀ e ∈ l, (1 ≤ e.f0 ∧ e.f0 ≤ 250) ∧ 0 ≤ e.f1 ∧ e.f1 ≤ 250
instance (l : List S57) : Decidable (VShs l) := by unfold VShs; infer_instance
theorem validRest_eq (n : Int) : spec_validRest.f n = some (decide (0 ≤ n ∧ n ≤ 250)) := by
  unfold spec_validRest.f
  rw [inRange_eq]; rfl
theorem nodup_snoc (pre : List Int) (y : Int) (ys : List Int) : (pre ++ y :: ys).Nodup ↔ y ∉ pre ∧ ((pre ++ [y]) ++ ys).Nodup := by
  rw [List.append_assoc, List.singleton_append]
  constructor
  · intro h
    refine ⟨fun hm => ?_, h⟩
    rw [List.nodup_append] at h
    exact h.2.2 y hm y List.mem_cons_self rfl
  · exact fun h => h.2
theorem validPlaces_l0 (xs : List Int) (hl : xs.length ≤ 2000000) (ys : List Int) : ∀ i : Int, At xs i ys → (xs.take i.toNat).Nodup → EvS (fun k => spec_validPlaces.l0 k xs i) (· = decide (xs.Nodup ∧ xs.length ≤ 12 ∧ AllW xs 1 250)) := by
  induction ys with
  | nil =>
    intro i h hd
    have hi := h.ge
    have hd' : xs.Nodup := by rwa [hi, Int.toNat_natCast, List.take_length] at hd
    refine EvS.step (fun k => by rw [spec_validPlaces.l0]) ?_
    refine EvS.neg (by omega) (EvS.ite (fun c => EvS.bindv (allIn_ok xs (by omega) 1 250) (EvS.now ?_)) (fun c => EvS.now ?_))
    · exact decide_eq_decide.2 ⟨fun g => ⟨hd', by omega, g⟩, fun g => g.2.2⟩
    · exact (decide_eq_false (fun g => by have := g.2.1; omega)).symm
  | cons y ys ih =>
    intro i h hd
    have h1 := h.lt
    have h2 := h.nonneg
    refine EvS.step (fun k => by rw [spec_validPlaces.l0]) ?_
    refine EvS.pos h.lt (EvS.pos h.nonneg (EvS.pos (by omega) ?_))
    rw [At.rd h, w64 (x := i + 1) (by omega) (by omega)]
    have hp := posF_nonneg y (xs.take i.toNat) 0 (by omega)
    refine EvS.bindv (placeIn_ok _ (by rw [List.length_take]; omega) y) (EvS.ite (fun c => EvS.now (decide_eq_false (fun g => ?_)).symm) (fun c => ?_))
    · have hs := h.split
      have hn := g.1
      rw [hs] at hn
      exact ((nodup_snoc _ _ _).1 hn).1 (hp.1 c)
    · refine ih _ h.next ?_
      rw [h.take, List.nodup_append]
      refine ⟨hd, by simp, fun a ha b hb e => ?_⟩
      rw [List.mem_singleton] at hb
      subst hb
      subst e
      exact c (hp.2 ha)
theorem validPlaces_ok (xs : List Int) (hl : xs.length ≤ 2000000) : EvS (fun k => spec_validPlaces.f k xs) (· = decide (xs.Nodup ∧ xs.length ≤ 12 ∧ AllW xs 1 250)) := by
  simp only [spec_validPlaces.f]
  exact validPlaces_l0 xs hl xs 0 (At.zero _) (by simp)
theorem spec_validShares_l0 (xs : List S57) (hl : xs.length ≤ 2000000) (ys : List S57) : ∀ i : Int, At xs i ys → (∀ e ∈ xs.take i.toNat, 0 ≤ e.f1 ∧ e.f1 ≤ 250) →
    EvS (fun k => spec_validShares.l0 k xs ((xs.take i.toNat).map (·.f0)) i) (· = decide (VShs xs)) := by
  induction ys with
  | nil =>
    intro i h hp
    have hi := h.ge
    rw [hi, Int.toNat_natCast, List.take_length] at hp ⊢
    refine EvS.step (fun k => by rw [spec_validShares.l0]) ?_
    refine EvS.neg (by omega) (EvS.bindv (validPlaces_ok _ (by rw [List.length_map]; exact hl)) (EvS.now ?_))
    refine decide_eq_decide.2 ⟨fun g => ⟨by have := g.2.1; rwa [List.length_map] at this, g.1, fun e he => ⟨g.2.2 e.f0 (List.mem_map_of_mem he), hp e he⟩⟩, fun g => ⟨g.2.1, by rw [List.length_map]; exact g.1, fun x hx => ?_⟩⟩
    obtain ⟨e, he, rfl⟩ := List.mem_map.1 hx
    exact (g.2.2 e he).1
  | cons y ys ih =>
    intro i h hp
    have h1 := h.lt
    have h2 := h.nonneg
    refine EvS.step (fun k => by rw [spec_validShares.l0]) ?_
    rw [at_rdShare h]
    refine EvS.pos h.lt (EvS.pos h.nonneg (EvS.call (validRest_eq _) (EvS.ite (fun c => EvS.pos (by rw [List.length_map, List.length_take]; omega) ?_) (fun c => EvS.now (decide_eq_false (fun g => ndec c (g.2.2 y h.mem).2)).symm))))
    have c := of_decide_eq_true c
    rw [w64 (x := i + 1) (by omega) (by omega)]
    have := ih (i + 1) h.next (fun e he => by
      rw [h.take] at he
      rcases List.mem_append.1 he with he | he
      · exact hp e he
      · rw [List.mem_singleton] at he; subst he; exact c)
    rw [h.take, List.map_append] at this
    exact this
theorem spec_validShares_ok (xs : List S57) (hl : xs.length ≤ 2000000) : EvS (fun k => spec_validShares.f k xs) (· = decide (VShs xs)) := by
  simp only [spec_validShares.f]
  exact spec_validShares_l0 xs hl xs 0 (At.zero _) (by simp)
theorem diff251 (xs : List Int) (h : AllW xs 1 250) : Diff xs 251 ↔ xs.Nodup :=
  ⟨fun g => g.1, fun g => ⟨g, fun x hx => by have := h x hx; omega⟩⟩
theorem impl_ValidShares_l0 (xs : List S57) (hl : xs.length ≤ 12) (ys : List S57) : ∀ i : Int, At xs i ys →
    EvS (fun k => impl_ValidShares.l0 k ((xs.take i.toNat).map (·.f0)) ((xs.take i.toNat).map (·.f1)) xs xs.length i) (· = decide (VShs xs)) := by
  induction ys with
  | nil =>
    intro i h
    have hi := h.ge
    rw [hi, Int.toNat_natCast, List.take_length]
    refine EvS.step (fun k => by rw [impl_ValidShares.l0]) ?_
    refine EvS.neg (by omega) (EvS.bindv (allWithin_ok _ (by rw [List.length_map]; omega) 1 250) (EvS.ite (fun c => EvS.bindv (differentBelow_ok _ (by rw [List.length_map]; omega) 251 (by omega) (by omega)) (EvS.ite (fun d => EvS.bindv (allWithin_ok _ (by rw [List.length_map]; omega) 0 250) (EvS.now ?_)) (fun d => EvS.now ?_))) (fun c => EvS.now ?_)))
    · have c := of_decide_eq_true c
      have d := of_decide_eq_true d
      refine decide_eq_decide.2 ⟨fun g => ⟨hl, d.1, fun e he => ⟨c _ (List.mem_map_of_mem he), g _ (List.mem_map_of_mem he)⟩⟩, fun g x hx => ?_⟩
      obtain ⟨e, he, rfl⟩ := List.mem_map.1 hx
      exact (g.2.2 e he).2
    · have c := of_decide_eq_true c
      exact (decide_eq_false (fun g => ndec d ((diff251 _ c).2 g.2.1))).symm
    · refine (decide_eq_false (fun g => ndec c (fun x hx => ?_))).symm
      obtain ⟨e, he, rfl⟩ := List.mem_map.1 hx
      exact (g.2.2 e he).1
  | cons y ys ih =>
    intro i h
    have h1 := h.lt
    have h2 := h.nonneg
    refine EvS.step (fun k => by rw [impl_ValidShares.l0]) ?_
    rw [at_rdShare h]
    refine EvS.pos h.lt (EvS.pos h.nonneg (EvS.pos h.lt (EvS.onsome (EvS.pos (by rw [List.length_map, List.length_take]; simp; omega) (EvS.onsome (EvS.pos (by rw [List.length_map, List.length_take]; simp; omega) ?_))))))
    rw [w64 (x := i + 1) (by omega) (by omega)]
    have := ih (i + 1) h.next
    rw [h.take, List.map_append, List.map_append] at this
    exact this
theorem impl_ValidShares_ok (xs : List S57) (hl : xs.length ≤ 2000000) : EvS (fun k => impl_ValidShares.f k xs) (· = decide (VShs xs)) := by
  simp only [impl_ValidShares.f]
  refine EvS.ite (fun c => EvS.now (decide_eq_false (fun g => by have := g.1; omega)).symm) (fun c => ?_)
  have := impl_ValidShares_l0 xs (by omega) xs 0 (At.zero _)
  exact this
open Go.Proofs.Ytnilffafnghngaa.Back (polyAns polyBack stepP)
/-! ## Polynomials mod 251. -/
def ev : List Int → Int → Int
  | [], _ => 0
  | c :: cs, x => c + x * ev cs x
def Cg (a b : Int) : Prop := ∃ k : Int, a = b + 251 * k
theorem Cg.refl (a : Int) : Cg a a := ⟨0, by omega⟩
theorem Cg.of {a b : Int} (h : a = b) : Cg a b := ⟨0, by omega⟩
theorem Cg.symm {a b : Int} : Cg a b → Cg b a := fun ⟨k, h⟩ => ⟨-k, by omega⟩
theorem Cg.trans {a b c : Int} : Cg a b → Cg b c → Cg a c := fun ⟨k, h⟩ ⟨m, g⟩ => ⟨k + m, by omega⟩
theorem Cg.add {a b c d : Int} : Cg a b → Cg c d → Cg (a + c) (b + d) := fun ⟨k, h⟩ ⟨m, g⟩ => ⟨k + m, by omega⟩
theorem Cg.sub {a b c d : Int} : Cg a b → Cg c d → Cg (a - c) (b - d) := fun ⟨k, h⟩ ⟨m, g⟩ => ⟨k - m, by omega⟩
theorem Cg.mul {a b c d : Int} : Cg a b → Cg c d → Cg (a * c) (b * d) := fun ⟨k, h⟩ ⟨m, g⟩ => ⟨b * m + k * d + 251 * k * m, by subst h; subst g; grind⟩
theorem Cg.mod {x : Int} (h : 0 ≤ x) : Cg (Int.tmod x 251) x := by
  rw [Int.tmod_eq_emod_of_nonneg h]
  exact ⟨-(x / 251), by omega⟩
theorem mod_rg {x : Int} (h : 0 ≤ x) : 0 ≤ Int.tmod x 251 ∧ Int.tmod x 251 ≤ 250 := by
  rw [Int.tmod_eq_emod_of_nonneg h]
  omega
theorem Cg.eq {a b : Int} (h : Cg a b) (ha : 0 ≤ a) (ha' : a ≤ 250) (hb : 0 ≤ b) (hb' : b ≤ 250) : a = b := by
  obtain ⟨k, h⟩ := h
  omega
theorem mul_rg {a b m n : Int} (h0 : 0 ≤ a) (h1 : a ≤ m) (h2 : 0 ≤ b) (h3 : b ≤ n) : 0 ≤ a * b ∧ a * b ≤ m * n :=
  ⟨Int.mul_nonneg h0 h2, Int.mul_le_mul h1 h3 h2 (Int.le_trans h0 h1)⟩
/-- Multiplied again and again. -/
def itr (a : Nat) : Nat → Nat → Nat
  | 0, v => v
  | n + 1, v => itr a n (v * a % 251)
theorem itr_le (a : Nat) : ∀ n v, v ≤ 250 → itr a n v ≤ 250
  | 0, _, h => h
  | n + 1, v, _ => itr_le a n _ (by omega)
set_option maxRecDepth 100000 in
theorem inv_all : ∀ a, a < 251 → a ≠ 0 → itr a 249 1 * a % 251 = 1 := by decide +kernel
theorem inv_of {a : Int} (h : ¬ Cg a 0) : ∃ i : Int, Cg (i * a) 1 := by
  have h0 : (a % 251).toNat ≠ 0 := fun e => h ⟨a / 251, by omega⟩
  have h1 := inv_all (a % 251).toNat (by omega) h0
  generalize itr (a % 251).toNat 249 1 = v at h1
  have ha : Cg a ((a % 251).toNat : Int) := ⟨a / 251, by omega⟩
  refine ⟨(v : Int), ((Cg.refl _).mul ha).trans ⟨((v * (a % 251).toNat / 251 : Nat) : Int), ?_⟩⟩
  generalize (a % 251).toNat = b at *
  have : ((v * b : Nat) : Int) = (v : Int) * (b : Int) := by simp
  rw [← this]
  omega
theorem Cg.cancel {a b : Int} (h : ¬ Cg a 0) (hab : Cg (a * b) 0) : Cg b 0 := by
  obtain ⟨i, hi⟩ := inv_of h
  have h1 : Cg (i * (a * b)) 0 := ((Cg.refl i).mul hab).trans (Cg.of (by grind))
  have h2 : Cg (i * (a * b)) b := ((Cg.of (by grind)).trans (hi.mul (Cg.refl b))).trans (Cg.of (by grind))
  exact h2.symm.trans h1
theorem ev_snoc (xs : List Int) (c z : Int) : ev (xs ++ [c]) z = ev xs z + z ^ xs.length * c := by
  induction xs with
  | nil => simp [ev]
  | cons x xs ih => simp only [List.cons_append, ev, ih, List.length_cons, Int.pow_succ]; grind
theorem ev_zeros (n : Nat) (z : Int) : ev (List.replicate n 0) z = 0 := by
  induction n with
  | zero => rfl
  | succ n ih => rw [List.replicate_succ]; simp only [ev, ih]; omega
theorem ev_set (xs : List Int) (v z : Int) : ∀ i : Nat, i < xs.length → ev (xs.set i v) z = ev xs z + z ^ i * (v - xs.getD i 0) := by
  induction xs with
  | nil => intro i h; simp at h
  | cons x xs ih =>
    intro i h
    cases i with
    | zero => simp [ev]; omega
    | succ i =>
      simp only [List.set_cons_succ, ev, ih i (by simpa using h), List.getD_cons_succ, Int.pow_succ]
      grind
theorem ev_rset (xs : List Int) (v z i : Int) (h0 : 0 ≤ i) (h1 : i < xs.length) : ev (xs.set i.toNat v) z = ev xs z + z ^ i.toNat * (v - rd xs i) := ev_set xs v z i.toNat (by omega)
theorem ev_take {xs ys : List Int} {i y : Int} (h : At xs i (y :: ys)) (z : Int) : ev (xs.take (i + 1).toNat) z = ev (xs.take i.toNat) z + z ^ i.toNat * y := by
  have := h.lt
  have := h.nonneg
  rw [h.take, ev_snoc, List.length_take, Nat.min_eq_left (by omega)]
/-- The coefficients of the quotient by (z - r). -/
def suf (r : Int) : List Int → List Int
  | [] => []
  | c :: cs => ev (c :: cs) r :: suf r cs
theorem suf_len (r : Int) : ∀ cs, (suf r cs).length = cs.length
  | [] => rfl
  | c :: cs => by simp [suf, suf_len r cs]
theorem ev_suf (r z : Int) (cs : List Int) : ∀ c, ev (c :: cs) z = (z - r) * ev (suf r cs) z + ev (c :: cs) r := by
  induction cs with
  | nil => intro c; simp [ev, suf]
  | cons d cs ih =>
    intro c
    have h := ih d
    simp only [ev, suf] at h ⊢
    rw [h]
    grind
theorem suf_zero (r : Int) : ∀ cs, (∀ v ∈ suf r cs, Cg v 0) → ∀ c ∈ cs, Cg c 0
  | [], _ => fun c h => by simp at h
  | c :: cs, h => by
    have h0 := h (ev (c :: cs) r) List.mem_cons_self
    have ht := suf_zero r cs (fun v hv => h v (List.mem_cons_of_mem _ hv))
    have h1 : Cg (ev cs r) 0 := by
      cases cs with
      | nil => exact Cg.refl _
      | cons d cs => exact h _ (List.mem_cons_of_mem _ List.mem_cons_self)
    have h2 : Cg c 0 := by
      have := h0.sub ((Cg.refl r).mul h1)
      simp only [ev] at this
      exact ((Cg.of (by omega)).trans this).trans (Cg.of (by omega))
    intro x hx
    rcases List.mem_cons.1 hx with rfl | hx
    · exact h2
    · exact ht x hx
theorem apart {a b : Int} (ha : 1 ≤ a ∧ a ≤ 250) (hb : 1 ≤ b ∧ b ≤ 250) (h : a ≠ b) : ¬ Cg (a - b) 0 := by
  rintro ⟨k, hk⟩
  omega
theorem roots (rs : List Int) : ∀ d : List Int, d.length = rs.length → rs.Nodup → (∀ r ∈ rs, 1 ≤ r ∧ r ≤ 250) → (∀ r ∈ rs, Cg (ev d r) 0) → ∀ c ∈ d, Cg c 0 := by
  induction rs with
  | nil => intro d h _ _ _ c hc; rw [List.length_eq_zero_iff.1 h] at hc; simp at hc
  | cons r rs ih =>
    intro d h hn hr hz
    cases d with
    | nil => simp at h
    | cons c cs =>
      have hd := hz r List.mem_cons_self
      obtain ⟨hn1, hn2⟩ := List.nodup_cons.1 hn
      have hs := ih (suf r cs) (by rw [suf_len]; simpa using h) hn2 (fun a ha => hr a (List.mem_cons_of_mem _ ha)) (fun a ha => by
        have h1 := hz a (List.mem_cons_of_mem _ ha)
        have h2 := ev_suf r a cs c
        refine Cg.cancel (apart (hr a (List.mem_cons_of_mem _ ha)) (hr r List.mem_cons_self) (fun e => hn1 (e ▸ ha))) (a := a - r) ?_
        exact ((Cg.of (by omega)).trans (h1.sub hd)).trans (Cg.of (by omega)))
      refine suf_zero r (c :: cs) (fun v hv => ?_)
      rcases List.mem_cons.1 hv with rfl | hv
      · exact hd
      · exact hs v hv
def less : List Int → List Int → List Int
  | a :: us, b :: vs => (a - b) :: less us vs
  | _, _ => []
theorem less_len : ∀ us vs : List Int, us.length = vs.length → (less us vs).length = us.length
  | [], _, _ => rfl
  | a :: us, [], h => by simp at h
  | a :: us, b :: vs, h => by simp [less, less_len us vs (by simpa using h)]
theorem ev_less (z : Int) : ∀ us vs : List Int, us.length = vs.length → ev (less us vs) z = ev us z - ev vs z
  | [], [], _ => rfl
  | [], b :: vs, h => by simp at h
  | a :: us, [], h => by simp at h
  | a :: us, b :: vs, h => by
    simp only [less, ev, ev_less z us vs (by simpa using h)]
    grind
/-- The product of the differences. -/
def pr : List Int → Int → Int
  | [], _ => 1
  | r :: rs, z => pr rs z * (z - r)
theorem pr_snoc (rs : List Int) (r z : Int) : pr (rs ++ [r]) z = pr rs z * (z - r) := by
  induction rs with
  | nil => rfl
  | cons a rs ih => simp only [List.cons_append, pr, ih]; grind
theorem pr_zero {rs : List Int} {r : Int} (h : r ∈ rs) : pr rs r = 0 := by
  induction rs with
  | nil => simp at h
  | cons a rs ih =>
    rcases List.mem_cons.1 h with rfl | h
    · simp only [pr]; grind
    · simp only [pr, ih h]; omega
theorem pr_ne {rs : List Int} {z : Int} (hz : 1 ≤ z ∧ z ≤ 250) (hr : ∀ r ∈ rs, 1 ≤ r ∧ r ≤ 250) (h : z ∉ rs) : ¬ Cg (pr rs z) 0 := by
  induction rs with
  | nil => rintro ⟨k, hk⟩; simp only [pr] at hk; omega
  | cons a rs ih =>
    intro g
    simp only [pr] at g
    exact apart hz (hr a List.mem_cons_self) (fun e => h (e ▸ List.mem_cons_self)) (Cg.cancel (ih (fun r hr' => hr r (List.mem_cons_of_mem _ hr')) (fun m => h (List.mem_cons_of_mem _ m))) g)
/-- A polynomial through all points. -/
def Thru (ps : List (Int × Int)) (cs : List Int) : Prop := cs.length = ps.length ∧ AllW cs 0 250 ∧ ∀ p ∈ ps, Cg (ev cs p.1) p.2
theorem thru_one {ps : List (Int × Int)} {cs ds : List Int} (hn : (ps.map (·.1)).Nodup) (hr : ∀ p ∈ ps, 1 ≤ p.1 ∧ p.1 ≤ 250) (h : Thru ps cs) (g : Thru ps ds) : rd cs 0 = rd ds 0 := by
  obtain ⟨h1, h2, h3⟩ := h
  obtain ⟨g1, g2, g3⟩ := g
  have hl := h1.trans g1.symm
  cases cs with
  | nil =>
    cases ds with
    | nil => rfl
    | cons d ds => simp at hl
  | cons c cs =>
    cases ds with
    | nil => simp at hl
    | cons d ds =>
      have := roots (ps.map (·.1)) (less (c :: cs) (d :: ds)) (by rw [less_len _ _ hl, List.length_map, h1]) hn (fun r hr' => by obtain ⟨p, hp, rfl⟩ := List.mem_map.1 hr'; exact hr p hp) (fun r hr' => by
        obtain ⟨p, hp, rfl⟩ := List.mem_map.1 hr'
        rw [ev_less _ _ _ hl]
        exact ((h3 p hp).sub (g3 p hp)).trans (Cg.of (by omega))) (c - d) List.mem_cons_self
      have k1 := h2 c List.mem_cons_self
      have k2 := g2 d List.mem_cons_self
      obtain ⟨k, hk⟩ := this
      show c = d
      omega
/-- The value from behind is the value. -/
theorem stepP_ok {x v c : Int} (hx : 0 ≤ x ∧ x ≤ 250) (hv : 0 ≤ v ∧ v ≤ 250) (hc : 0 ≤ c ∧ c ≤ 250) : (0 ≤ stepP x v c ∧ stepP x v c ≤ 250) ∧ Cg (stepP x v c) (v * x + c) := by
  have := mul_rg hv.1 hv.2 hx.1 hx.2
  unfold stepP
  rw [w64 (x := v * x) (by omega) (by omega), w64 (by omega) (by omega)]
  exact ⟨mod_rg (by omega), Cg.mod (by omega)⟩
theorem polyBack_ok {x : Int} (hx : 0 ≤ x ∧ x ≤ 250) (cs : List Int) (h : AllW cs 0 250) : (0 ≤ polyBack cs x ∧ polyBack cs x ≤ 250) ∧ Cg (polyBack cs x) (ev cs x) := by
  unfold polyBack
  rw [List.foldl_reverse]
  induction cs with
  | nil => exact ⟨by simp, Cg.of rfl⟩
  | cons c cs ih =>
    obtain ⟨h1, h2⟩ := ih (fun y hy => h y (List.mem_cons_of_mem _ hy))
    rw [List.foldr_cons]
    obtain ⟨g1, g2⟩ := stepP_ok hx h1 (h c List.mem_cons_self)
    refine ⟨g1, g2.trans (((h2.mul (Cg.refl x)).add (Cg.refl c)).trans (Cg.of ?_))⟩
    simp only [ev]
    grind
theorem allW_set {xs : List Int} {v lo hi : Int} (h : AllW xs lo hi) (hv : lo ≤ v ∧ v ≤ hi) (i : Nat) : AllW (xs.set i v) lo hi := fun x hx => by
  rcases List.mem_or_eq_of_mem_set hx with hx | rfl
  · exact h x hx
  · exact hv
theorem allW_zeros (n : Nat) (hi : Int) (h : 0 ≤ hi) : AllW (List.replicate n 0) 0 hi := fun x hx => by rw [(List.mem_replicate.1 hx).2]; omega
/-! ## A secret opened: both interpolations. -/
theorem put_ok (s : List Int) (i v : Int) (h0 : 0 ≤ i) (h1 : i < s.length) (hs : AllW s 0 250) (hv : 0 ≤ v ∧ v ≤ 1000000) :
    AllW (s.set i.toNat (Int.tmod (wrap64 (rd s i + v)) 251)) 0 250 ∧ ∀ z, Cg (ev (s.set i.toNat (Int.tmod (wrap64 (rd s i + v)) 251)) z) (ev s z + z ^ i.toNat * v) := by
  have hr := rd_range hs i h0 h1
  rw [w64 (x := rd s i + v) (by omega) (by omega)]
  refine ⟨allW_set hs (mod_rg (by omega)) _, fun z => ?_⟩
  rw [ev_rset s _ z i h0 h1]
  have h := (Cg.refl (z ^ i.toNat)).mul ((Cg.mod (x := rd s i + v) (by omega)).sub (Cg.refl (rd s i)))
  exact ((Cg.refl (ev s z)).add h).trans (Cg.of (by rw [show rd s i + v - rd s i = v by omega]))
theorem times_step (s : List Int) (i y r v : Int) (h0 : 0 ≤ i) (h1 : i + 1 < s.length) (hs : AllW s 0 250) (hy : 0 ≤ y ∧ y ≤ 250) (hv : 0 ≤ v ∧ v ≤ 1000000) (hc : Cg v (-(r * y))) (s1 : List Int) (h : s1 = s.set (i + 1).toNat (Int.tmod (wrap64 (rd s (i + 1) + y)) 251)) :
    AllW (s1.set i.toNat (Int.tmod (wrap64 (rd s1 i + v)) 251)) 0 250 ∧ ∀ z, Cg (ev (s1.set i.toNat (Int.tmod (wrap64 (rd s1 i + v)) 251)) z) (ev s z + z ^ i.toNat * ((z - r) * y)) := by
  obtain ⟨a1, a2⟩ := put_ok s (i + 1) y (by omega) h1 hs (by omega)
  rw [← h] at a1 a2
  obtain ⟨b1, b2⟩ := put_ok s1 i v h0 (by rw [h, List.length_set]; omega) a1 hv
  refine ⟨b1, fun z => (b2 z).trans (((a2 z).add ((Cg.refl (z ^ i.toNat)).mul hc)).trans (Cg.of ?_))⟩
  rw [show (i + 1).toNat = i.toNat + 1 by omega, Int.pow_succ]
  grind
theorem spec_times_l0 (xs : List Int) (r : Int) (hx : AllW xs 0 250) (hr : 0 ≤ r ∧ r ≤ 250) (hl : xs.length ≤ 1000000) (ys : List Int) : ∀ (i : Int) (s : List Int), At xs i ys → s.length = xs.length + 1 → AllW s 0 250 → (∀ z, Cg (ev s z) ((z - r) * ev (xs.take i.toNat) z)) →
    EvS (fun k => spec_times.l0 k xs r s i) (fun t => t.length = xs.length + 1 ∧ AllW t 0 250 ∧ ∀ z, Cg (ev t z) ((z - r) * ev xs z)) := by
  induction ys with
  | nil =>
    intro i s h h1 h2 h3
    have hi := h.ge
    rw [hi, Int.toNat_natCast, List.take_length] at h3
    refine EvS.step (fun k => by rw [spec_times.l0]) ?_
    exact EvS.neg (by omega) (EvS.now ⟨h1, h2, h3⟩)
  | cons y ys ih =>
    intro i s h h1 h2 h3
    have g1 := h.lt
    have g2 := h.nonneg
    have hy := hx y h.mem
    have hm := mul_rg hy.1 hy.2 (b := 251 - r) (n := 251) (by omega) (by omega)
    refine EvS.step (fun k => by rw [spec_times.l0]) ?_
    rw [At.rd h, w64 (x := i + 1) (by omega) (by omega), w64 (x := 251 - r) (by omega) (by omega), w64 (x := y * (251 - r)) (by omega) (by omega)]
    refine EvS.pos g1 (EvS.pos (by omega) (EvS.pos (by omega) (EvS.pos g2 (EvS.onsome (EvS.pos (by omega) ?_)))))
    obtain ⟨b1, b2⟩ := times_step s i y r (y * (251 - r)) g2 (by omega) h2 hy (by omega) ⟨y, by grind⟩ _ rfl
    refine ih _ _ h.next (by simpa using h1) b1 (fun z => (b2 z).trans (((h3 z).add (Cg.refl _)).trans (Cg.of ?_)))
    rw [ev_take h]
    grind
theorem spec_times_ok (xs : List Int) (r : Int) (hx : AllW xs 0 250) (hr : 0 ≤ r ∧ r ≤ 250) (hl : xs.length ≤ 1000000) : EvS (fun k => spec_times.f k xs r) (fun t => t.length = xs.length + 1 ∧ AllW t 0 250 ∧ ∀ z, Cg (ev t z) ((z - r) * ev xs z)) := by
  simp only [spec_times.f]
  rw [w64 (x := (xs.length : Int) + 1) (by omega) (by omega)]
  refine EvS.pos (by omega) (EvS.pos (by omega) (spec_times_l0 xs r hx hr hl xs 0 _ (At.zero _) (by rw [List.length_replicate]; omega) (allW_zeros _ _ (by omega)) (fun z => Cg.of ?_)))
  rw [ev_zeros]
  simp [ev]
theorem spec_inverse_l0 (a : Nat) (ha : a ≤ 250) : ∀ (n v : Nat), n ≤ 249 → v ≤ 250 → EvS (fun k => spec_inverse.l0 k (a : Int) (v : Int) (249 - (n : Int))) (· = (itr a n v : Int)) := by
  intro n
  induction n with
  | zero =>
    intro v _ _
    refine EvS.step (fun k => by rw [spec_inverse.l0]) ?_
    exact EvS.neg (by omega) (EvS.now rfl)
  | succ n ih =>
    intro v h1 h2
    have hm := mul_rg (a := (v : Int)) (b := (a : Int)) (m := 250) (n := 250) (by omega) (by omega) (by omega) (by omega)
    refine EvS.step (fun k => by rw [spec_inverse.l0]) ?_
    rw [w64 (x := (v : Int) * (a : Int)) (by omega) (by omega), w64 (x := 249 - ((n + 1 : Nat) : Int) + 1) (by omega) (by omega)]
    rw [show 249 - ((n + 1 : Nat) : Int) + 1 = 249 - (n : Int) by omega]
    refine EvS.pos (by omega) ?_
    rw [Int.tmod_eq_emod_of_nonneg hm.1, show (v : Int) * (a : Int) % 251 = ((v * a % 251 : Nat) : Int) by simp]
    exact ih _ (by omega) (by omega)
theorem spec_inverse_ok (a : Int) (h0 : 0 ≤ a) (h1 : a ≤ 250) (hn : ¬ Cg a 0) : EvS (fun k => spec_inverse.f k a) (fun r => (0 ≤ r ∧ r ≤ 250) ∧ Cg (r * a) 1) := by
  obtain ⟨b, rfl⟩ : ∃ b : Nat, a = b := ⟨a.toNat, by omega⟩
  simp only [spec_inverse.f]
  refine EvS.mono (spec_inverse_l0 b (by omega) 249 1 (by omega) (by omega)) (fun r hr => ?_)
  subst hr
  have h2 := itr_le b 249 1 (by omega)
  have h3 := inv_all b (by omega) (fun e => hn ⟨0, by omega⟩)
  refine ⟨by omega, ?_⟩
  generalize itr b 249 1 = v at *
  refine ⟨((v * b / 251 : Nat) : Int), ?_⟩
  have : ((v * b : Nat) : Int) = (v : Int) * (b : Int) := by simp
  rw [← this]
  omega
theorem impl_InverseOf_l0 (a : Nat) (ha : a ≤ 250) (m : Nat) (hm : m ≤ 250) (h : m * a % 251 = 1) : ∀ (d n : Nat), n + d = m → EvS (fun k => impl_InverseOf.l0 k (a : Int) (n : Int)) (fun r => (0 ≤ r ∧ r ≤ 250) ∧ Cg (r * a) 1) := by
  have go : ∀ n : Nat, n ≤ 250 → n * a % 251 = 1 → Cg ((n : Int) * (a : Int)) 1 := fun n _ hn => by
    refine ⟨((n * a / 251 : Nat) : Int), ?_⟩
    have : ((n * a : Nat) : Int) = (n : Int) * (a : Int) := by simp
    rw [← this]
    omega
  intro d
  induction d with
  | zero =>
    intro n e
    obtain rfl : n = m := by omega
    have hr := mul_rg (a := (n : Int)) (b := (a : Int)) (m := 250) (n := 250) (by omega) (by omega) (by omega) (by omega)
    refine EvS.step (fun k => by rw [impl_InverseOf.l0]) ?_
    rw [w64 (x := (n : Int) * (a : Int)) (by omega) (by omega), Int.tmod_eq_emod_of_nonneg hr.1, show (n : Int) * (a : Int) % 251 = ((n * a % 251 : Nat) : Int) by simp]
    exact EvS.pos (by omega) (EvS.now ⟨by omega, go n hm h⟩)
  | succ d ih =>
    intro n e
    have hr := mul_rg (a := (n : Int)) (b := (a : Int)) (m := 250) (n := 250) (by omega) (by omega) (by omega) (by omega)
    refine EvS.step (fun k => by rw [impl_InverseOf.l0]) ?_
    rw [w64 (x := (n : Int) * (a : Int)) (by omega) (by omega), Int.tmod_eq_emod_of_nonneg hr.1, show (n : Int) * (a : Int) % 251 = ((n * a % 251 : Nat) : Int) by simp, w64 (x := (n : Int) + 1) (by omega) (by omega)]
    refine EvS.ite (fun c => EvS.now ⟨by omega, go n (by omega) (by omega)⟩) (fun c => ?_)
    have := ih (n + 1) (by omega)
    rw [show ((n + 1 : Nat) : Int) = (n : Int) + 1 by omega] at this
    exact this
theorem impl_InverseOf_ok (a : Int) (h0 : 0 ≤ a) (h1 : a ≤ 250) (hn : ¬ Cg a 0) : EvS (fun k => impl_InverseOf.f k a) (fun r => (0 ≤ r ∧ r ≤ 250) ∧ Cg (r * a) 1) := by
  obtain ⟨b, rfl⟩ : ∃ b : Nat, a = b := ⟨a.toNat, by omega⟩
  have hb : b ≠ 0 := fun e => hn ⟨0, by omega⟩
  have h2 := itr_le b 249 1 (by omega)
  have h3 := inv_all b (by omega) hb
  generalize itr b 249 1 = v at *
  have hv : v ≠ 0 := fun e => by subst e; simp at h3
  simp only [impl_InverseOf.f]
  refine EvS.neg (by omega) ?_
  rw [decide_eq_false (by omega)]
  refine EvS.step (fun k => by rw [impl_InverseOf.j0]) ?_
  refine EvS.neg (by simp) ?_
  exact impl_InverseOf_l0 b (by omega) v h2 h3 (v - 1) 1 (by omega)
/-! ### The reference's: one term for each share. -/
theorem nodup_apart {a b : List S57} {y : S57} (h : ((a ++ y :: b).map (·.f0)).Nodup) : (∀ e ∈ a, e.f0 ≠ y.f0) ∧ ∀ e ∈ b, e.f0 ≠ y.f0 := by
  rw [List.map_append, List.map_cons, List.nodup_append, List.nodup_cons] at h
  refine ⟨fun e he => h.2.2 e.f0 (List.mem_map_of_mem he) y.f0 List.mem_cons_self, fun e he q => h.2.1.1 ?_⟩
  rw [← q]
  exact List.mem_map_of_mem he
def pts (l : List S57) : List (Int × Int) := l.map (fun e => (e.f0, e.f1))
theorem spec_through_l2 (xs : List S57) (i fac : Int) (bs : List Int) (hb : AllW bs 0 250) (hf : 0 ≤ fac ∧ fac ≤ 250) (hl : bs.length ≤ 1000000) (s0 : List Int) (P : List Int → Prop) (ys : List Int) : ∀ (j : Int) (s : List Int), At bs j ys → bs.length ≤ s.length → AllW s 0 250 → (∀ z, Cg (ev s z) (ev s0 z + fac * ev (bs.take j.toNat) z)) →
    (∀ t : List Int, t.length = s.length → AllW t 0 250 → (∀ z, Cg (ev t z) (ev s0 z + fac * ev bs z)) → EvS (fun k => spec_through.l0 k xs t (wrap64 (i + 1))) P) → EvS (fun k => spec_through.l2 k xs s i bs fac j) P := by
  induction ys with
  | nil =>
    intro j s h h1 h2 h3 K
    have hi := h.ge
    rw [hi, Int.toNat_natCast, List.take_length] at h3
    refine EvS.step (fun k => by rw [spec_through.l2]) ?_
    exact EvS.neg (by omega) (K s rfl h2 h3)
  | cons y ys ih =>
    intro j s h h1 h2 h3 K
    have g1 := h.lt
    have g2 := h.nonneg
    have hy := hb y h.mem
    have hm := mul_rg hf.1 hf.2 hy.1 hy.2
    refine EvS.step (fun k => by rw [spec_through.l2]) ?_
    rw [At.rd h, w64 (x := j + 1) (by omega) (by omega), w64 (x := fac * y) (by omega) (by omega)]
    refine EvS.pos g1 (EvS.pos g2 (EvS.pos (by omega) ?_))
    obtain ⟨b1, b2⟩ := put_ok s j (fac * y) g2 (by omega) h2 (by omega)
    refine ih _ _ h.next (by simpa using h1) b1 (fun z => (b2 z).trans (((h3 z).add (Cg.refl _)).trans (Cg.of ?_))) (fun t ht => K t (by simpa using ht))
    rw [ev_take h]
    grind
def oth (x : Int) (l : List S57) : List Int := (l.map (·.f0)).filter (fun r => decide (r ≠ x))
theorem share_at {xs ys : List S57} {i j : Int} {e y : S57} {zs : List S57} (hn : (xs.map (·.f0)).Nodup) (h : At xs j (e :: ys)) (g : At xs i (y :: zs)) (he : e.f0 = y.f0) : j = i := by
  have h1 := h.get?
  have g1 := g.get?
  have := h.nonneg
  have := g.nonneg
  have h2 := h.lt
  have g2 := g.lt
  rw [List.Nodup, List.pairwise_iff_getElem] at hn
  rw [List.getElem?_eq_getElem (by omega), Option.some.injEq] at h1 g1
  rcases Nat.lt_trichotomy j.toNat i.toNat with c | c | c
  · have := hn j.toNat i.toNat (by rw [List.length_map]; omega) (by rw [List.length_map]; omega) c
    rw [List.getElem_map, List.getElem_map, h1, g1] at this
    exact absurd he this
  · omega
  · have := hn i.toNat j.toNat (by rw [List.length_map]; omega) (by rw [List.length_map]; omega) c
    rw [List.getElem_map, List.getElem_map, h1, g1] at this
    exact absurd he.symm this
theorem oth_snoc (x : Int) (l : List S57) (e : S57) : oth x (l ++ [e]) = if e.f0 = x then oth x l else oth x l ++ [e.f0] := by
  unfold oth
  rw [List.map_append, List.filter_append]
  by_cases c : e.f0 = x
  · rw [if_pos c]; simp [c]
  · rw [if_neg c]; simp [c]
theorem spec_through_l1 (xs : List S57) (hv : VShs xs) (i : Int) (y : S57) (zs : List S57) (hi : At xs i (y :: zs)) (s : List Int) (P : List Int → Prop) (ys : List S57) : ∀ (j : Int) (bs : List Int) (den : Int), At xs j ys → bs.length = (oth y.f0 (xs.take j.toNat)).length + 1 → AllW bs 0 250 → (∀ z, Cg (ev bs z) (pr (oth y.f0 (xs.take j.toNat)) z)) → (0 ≤ den ∧ den ≤ 250) → Cg den (pr (oth y.f0 (xs.take j.toNat)) y.f0) →
    (∀ (bs : List Int) (den : Int), bs.length = (oth y.f0 xs).length + 1 → AllW bs 0 250 → (∀ z, Cg (ev bs z) (pr (oth y.f0 xs) z)) → (0 ≤ den ∧ den ≤ 250) → Cg den (pr (oth y.f0 xs) y.f0) → EvS (fun k => (spec_inverse.f k den).bind fun t => spec_through.l2 k xs s i bs (Int.tmod (wrap64 (y.f1 * t)) 251) 0) P) →
    EvS (fun k => spec_through.l1 k xs s i bs den j) P := by
  have hl := hv.1
  have i1 := hi.lt
  have i2 := hi.nonneg
  induction ys with
  | nil =>
    intro j bs den h h1 h2 h3 h4 h5 K
    have hj := h.ge
    rw [hj, Int.toNat_natCast, List.take_length] at h1 h3 h5
    refine EvS.step (fun k => by rw [spec_through.l1]) ?_
    rw [at_rdShare hi]
    exact EvS.neg (by omega) (EvS.pos i2 (EvS.pos i1 (K bs den h1 h2 h3 h4 h5)))
  | cons e ys ih =>
    intro j bs den h h1 h2 h3 h4 h5 K
    have g1 := h.lt
    have g2 := h.nonneg
    have he := (hv.2.2 e h.mem).1
    have hy := (hv.2.2 y hi.mem).1
    have hlen : (oth y.f0 (xs.take j.toNat)).length ≤ 12 := by
      unfold oth
      have := List.length_filter_le (fun r => decide (r ≠ y.f0)) ((xs.take j.toNat).map (·.f0))
      rw [List.length_map, List.length_take] at this
      omega
    refine EvS.step (fun k => by rw [spec_through.l1]) ?_
    rw [w64 (x := j + 1) (by omega) (by omega), at_rdShare hi, at_rdShare h]
    refine EvS.pos g1 (EvS.ite (fun c => ?_) (fun c => ?_))
    · have ey : e.f0 = y.f0 := by
        subst c
        have := h.get?
        rw [hi.get?] at this
        rw [Option.some.inj this]
      have hs : oth y.f0 (xs.take (j + 1).toNat) = oth y.f0 (xs.take j.toNat) := by rw [h.take, oth_snoc, if_pos ey]
      exact ih _ _ _ h.next (by rw [hs]; exact h1) h2 (by rw [hs]; exact h3) h4 (by rw [hs]; exact h5) K
    · have ey : e.f0 ≠ y.f0 := fun q => c (share_at hv.2.1 h hi q)
      have hs : oth y.f0 (xs.take (j + 1).toNat) = oth y.f0 (xs.take j.toNat) ++ [e.f0] := by rw [h.take, oth_snoc, if_neg ey]
      refine EvS.pos g2 (EvS.bind (spec_times_ok bs e.f0 h2 (by omega) (by omega)) (fun t ht => EvS.pos i2 (EvS.pos i1 ?_)))
      obtain ⟨t1, t2, t3⟩ := ht
      have hm := mul_rg h4.1 h4.2 (b := y.f0 - e.f0 + 251) (n := 501) (by omega) (by omega)
      rw [w64 (x := y.f0 - e.f0) (by omega) (by omega), w64 (x := y.f0 - e.f0 + 251) (by omega) (by omega), w64 (x := den * (y.f0 - e.f0 + 251)) (by omega) (by omega)]
      refine ih _ _ _ h.next (by rw [hs, t1, h1]; simp) t2 (fun z => ?_) (mod_rg hm.1) ?_ K
      · rw [hs, pr_snoc]
        exact (t3 z).trans (((Cg.refl _).mul (h3 z)).trans (Cg.of (Int.mul_comm _ _)))
      · rw [hs, pr_snoc]
        exact (Cg.mod hm.1).trans (h5.mul ⟨1, by omega⟩)
theorem mem_oth {x : Int} {l : List S57} {e : S57} (h : e ∈ l) (hx : e.f0 ≠ x) : e.f0 ∈ oth x l := by
  unfold oth
  exact List.mem_filter.2 ⟨List.mem_map_of_mem h, by simpa using hx⟩
theorem oth_len {x : Int} {l : List S57} {e : S57} (h : e ∈ l) (hx : e.f0 = x) : (oth x l).length < l.length := by
  unfold oth
  have : ((l.map (·.f0)).filter (fun r => decide (r ≠ x))).length < (l.map (·.f0)).length := by
    rw [List.length_filter_lt_length_iff_exists]
    exact ⟨e.f0, List.mem_map_of_mem h, by simpa using hx⟩
  rwa [List.length_map] at this
theorem spec_through_l0 (xs : List S57) (hv : VShs xs) (ys : List S57) : ∀ (i : Int) (s : List Int), At xs i ys → s.length = xs.length → AllW s 0 250 → (∀ e ∈ xs.take i.toNat, Cg (ev s e.f0) e.f1) → (∀ e ∈ ys, Cg (ev s e.f0) 0) → EvS (fun k => spec_through.l0 k xs s i) (Thru (pts xs)) := by
  have hl := hv.1
  induction ys with
  | nil =>
    intro i s h h1 h2 h3 h4
    have hi := h.ge
    rw [hi, Int.toNat_natCast, List.take_length] at h3
    refine EvS.step (fun k => by rw [spec_through.l0]) ?_
    refine EvS.neg (by omega) (EvS.now ⟨by unfold pts; rw [List.length_map, h1], h2, fun p hp => ?_⟩)
    obtain ⟨e, he, rfl⟩ := List.mem_map.1 hp
    exact h3 e he
  | cons y ys ih =>
    intro i s h h1 h2 h3 h4
    have g1 := h.lt
    have g2 := h.nonneg
    have hy := hv.2.2 y h.mem
    have hol := oth_len (x := y.f0) h.mem rfl
    have nin : y.f0 ∉ oth y.f0 xs := by unfold oth; simp
    have nz : ¬ Cg (pr (oth y.f0 xs) y.f0) 0 := pr_ne hy.1 (fun r hr => by
      obtain ⟨e, he, rfl⟩ := List.mem_map.1 (List.mem_filter.1 hr).1
      exact (hv.2.2 e he).1) nin
    refine EvS.step (fun k => by rw [spec_through.l0]) ?_
    refine EvS.pos g1 (spec_through_l1 xs hv i y ys h s _ xs 0 [1] 1 (At.zero _) rfl (fun x hx => by rw [List.mem_singleton.1 hx]; omega) (fun z => Cg.of (by simp [ev, oth, pr])) (by omega) (Cg.of (by simp [oth, pr])) (fun bs den b1 b2 b3 b4 b5 => ?_))
    refine EvS.bind (spec_inverse_ok den b4.1 b4.2 (fun q => nz (b5.symm.trans q))) (fun t ht => ?_)
    obtain ⟨t1, t2⟩ := ht
    have hm := mul_rg hy.2.1 hy.2.2 t1.1 t1.2
    rw [w64 (x := y.f1 * t) (by omega) (by omega)]
    have hc := Cg.mod hm.1
    have hcr := mod_rg hm.1
    generalize Int.tmod (y.f1 * t) 251 = fac at *
    refine spec_through_l2 xs i fac bs b2 hcr (by omega) s _ bs 0 s (At.zero _) (by omega) h2 (fun z => Cg.of (by simp [ev])) (fun u u1 u2 u3 => ?_)
    rw [w64 (x := i + 1) (by omega) (by omega)]
    have keep : ∀ e ∈ xs, e.f0 ≠ y.f0 → Cg (ev u e.f0) (ev s e.f0) := fun e he hne => by
      refine (u3 e.f0).trans (((Cg.refl _).add ((Cg.refl fac).mul (b3 e.f0))).trans (Cg.of ?_))
      rw [pr_zero (mem_oth he hne)]
      omega
    have hsp := hv.2.1
    rw [h.split] at hsp
    have hsp := nodup_apart hsp
    refine ih _ _ h.next (u1.trans h1) u2 (fun e he => ?_) (fun e he => ?_)
    · rw [h.take] at he
      rcases List.mem_append.1 he with he | he
      · exact (keep e (List.mem_of_mem_take he) (hsp.1 e he)).trans (h3 e he)
      · rw [List.mem_singleton.1 he]
        refine (u3 y.f0).trans ((((h4 y List.mem_cons_self).add (hc.mul ((b3 y.f0).trans b5.symm)))).trans ?_)
        exact (Cg.of (by grind)).trans (((Cg.refl y.f1).mul t2).trans (Cg.of (by omega)))
    · exact (keep e (h.sub e (List.mem_cons_of_mem _ he)) (hsp.2 e he)).trans (h4 e (List.mem_cons_of_mem _ he))
theorem spec_through_ok (xs : List S57) (hv : VShs xs) : EvS (fun k => spec_through.f k xs) (Thru (pts xs)) := by
  have hl := hv.1
  simp only [spec_through.f]
  refine EvS.pos (by omega) (EvS.pos (by omega) (spec_through_l0 xs hv xs 0 _ (At.zero _) (by simp) (allW_zeros _ _ (by omega)) (fun e he => by simp at he) (fun e he => ?_)))
  rw [ev_zeros]
  exact Cg.refl 0
/-! ### The program's: one point more in each round. -/
theorem impl_polyOf_l1 (xs : List S57) (m i x yy c : Int) (bs : List Int) (hb : AllW bs 0 250) (hc : 0 ≤ c ∧ c ≤ 250) (hx : 1 ≤ x ∧ x ≤ 250) (hl : bs.length ≤ 1000000) (s0 : List Int) (P : List Int → Prop) (ys : List Int) : ∀ (j : Int) (s nx : List Int), At bs j ys → bs.length ≤ s.length → nx.length = bs.length + 1 → AllW s 0 250 → AllW nx 0 250 → (∀ z, Cg (ev s z) (ev s0 z + c * ev (bs.take j.toNat) z)) → (∀ z, Cg (ev nx z) ((z - x) * ev (bs.take j.toNat) z)) →
    (∀ t u : List Int, t.length = s.length → u.length = bs.length + 1 → AllW t 0 250 → AllW u 0 250 → (∀ z, Cg (ev t z) (ev s0 z + c * ev bs z)) → (∀ z, Cg (ev u z) ((z - x) * ev bs z)) → EvS (fun k => impl_polyOf.l0 k t u xs m (wrap64 (i + 1))) P) → EvS (fun k => impl_polyOf.l1 k s c nx xs m i bs bs.length j x yy) P := by
  induction ys with
  | nil =>
    intro j s nx h h1 h2 h3 h4 h5 h6 K
    have hi := h.ge
    rw [hi, Int.toNat_natCast, List.take_length] at h5 h6
    refine EvS.step (fun k => by rw [impl_polyOf.l1]) ?_
    exact EvS.neg (by omega) (K s nx rfl h2 h3 h4 h5 h6)
  | cons y ys ih =>
    intro j s nx h h1 h2 h3 h4 h5 h6 K
    have g1 := h.lt
    have g2 := h.nonneg
    have hy := hb y h.mem
    have hm := mul_rg hc.1 hc.2 hy.1 hy.2
    have hn := mul_rg (a := 251 - x) (m := 250) (by omega) (by omega) hy.1 hy.2
    refine EvS.step (fun k => by rw [impl_polyOf.l1]) ?_
    rw [At.rd h, w64 (x := j + 1) (by omega) (by omega), w64 (x := c * y) (by omega) (by omega), w64 (x := 251 - x) (by omega) (by omega), w64 (x := (251 - x) * y) (by omega) (by omega)]
    refine EvS.pos g1 (EvS.pos g2 (EvS.pos g1 (EvS.pos (by omega) (EvS.pos (by omega) (EvS.pos (by omega) (EvS.onsome (EvS.pos (by omega) ?_)))))))
    obtain ⟨b1, b2⟩ := put_ok s j (c * y) g2 (by omega) h3 (by omega)
    obtain ⟨d1, d2⟩ := times_step nx j y x ((251 - x) * y) g2 (by omega) h4 hy (by omega) ⟨y, by grind⟩ _ rfl
    refine ih _ _ _ h.next (by simpa using h1) (by simpa using h2) b1 d1 (fun z => (b2 z).trans (((h5 z).add (Cg.refl _)).trans (Cg.of ?_))) (fun z => (d2 z).trans (((h6 z).add (Cg.refl _)).trans (Cg.of ?_))) (fun t u ht hu => K t u (by simpa using ht) hu)
    · rw [ev_take h]
      grind
    · rw [ev_take h]
      grind
theorem impl_polyOf_l0 (xs : List S57) (hv : VShs xs) (ys : List S57) : ∀ (i : Int) (s bs : List Int), At xs i ys → (s.length : Int) = i → (bs.length : Int) = i + 1 → AllW s 0 250 → AllW bs 0 250 → (∀ e ∈ xs.take i.toNat, Cg (ev s e.f0) e.f1) → (∀ z, Cg (ev bs z) (pr ((xs.take i.toNat).map (·.f0)) z)) → EvS (fun k => impl_polyOf.l0 k s bs xs xs.length i) (Thru (pts xs)) := by
  have hl := hv.1
  induction ys with
  | nil =>
    intro i s bs h h1 h2 h3 h4 h5 h6
    have hi := h.ge
    rw [hi, Int.toNat_natCast, List.take_length] at h5
    refine EvS.step (fun k => by rw [impl_polyOf.l0]) ?_
    refine EvS.neg (by omega) (EvS.now ⟨by unfold pts; rw [List.length_map]; omega, h3, fun p hp => ?_⟩)
    obtain ⟨e, he, rfl⟩ := List.mem_map.1 hp
    exact h5 e he
  | cons y ys ih =>
    intro i s bs h h1 h2 h3 h4 h5 h6
    have g1 := h.lt
    have g2 := h.nonneg
    have hy := hv.2.2 y h.mem
    have hsp := hv.2.1
    rw [h.split] at hsp
    have hsp := nodup_apart hsp
    have nin : y.f0 ∉ (xs.take i.toNat).map (·.f0) := fun q => by
      obtain ⟨e, he, q⟩ := List.mem_map.1 q
      exact hsp.1 e he q
    have nz : ¬ Cg (pr ((xs.take i.toNat).map (·.f0)) y.f0) 0 := pr_ne hy.1 (fun r hr => by
      obtain ⟨e, he, rfl⟩ := List.mem_map.1 hr
      exact (hv.2.2 e (List.mem_of_mem_take he)).1) nin
    obtain ⟨p1, p2⟩ := polyBack_ok (x := y.f0) (by omega) s h3
    obtain ⟨q1, q2⟩ := polyBack_ok (x := y.f0) (by omega) bs h4
    refine EvS.step (fun k => by rw [impl_polyOf.l0]) ?_
    rw [at_rdShare h]
    refine EvS.pos g1 (EvS.pos g2 (EvS.pos g1 (EvS.onsome (EvS.onsome (EvS.bind (impl_InverseOf_ok _ q1.1 q1.2 (fun q => nz ((h6 _).symm.trans (q2.symm.trans q)))) (fun t ht => ?_))))))
    obtain ⟨t1, t2⟩ := ht
    have hm := mul_rg (a := y.f1 - polyBack s y.f0 + 251) (m := 501) (by omega) (by omega) t1.1 t1.2
    rw [w64 (x := (bs.length : Int) + 1) (by omega) (by omega), w64 (x := y.f1 - polyBack s y.f0) (by omega) (by omega), w64 (x := y.f1 - polyBack s y.f0 + 251) (by omega) (by omega), w64 (x := (y.f1 - polyBack s y.f0 + 251) * t) (by omega) (by omega)]
    refine EvS.pos (by omega) (EvS.pos (by omega) (EvS.pos (by omega) ?_))
    have hc := Cg.mod hm.1
    have hcr := mod_rg hm.1
    generalize Int.tmod ((y.f1 - polyBack s y.f0 + 251) * t) 251 = c at *
    have e0 : ∀ z, ev (s ++ [0]) z = ev s z := fun z => by rw [ev_snoc]; omega
    have a0 : AllW (s ++ [0]) 0 250 := fun x hx => by
      rcases List.mem_append.1 hx with hx | hx
      · exact h3 x hx
      · rw [List.mem_singleton.1 hx]; omega
    refine impl_polyOf_l1 xs xs.length i y.f0 y.f1 c bs h4 hcr hy.1 (by omega) (s ++ [0]) _ bs 0 (s ++ [0]) _ (At.zero _) (by rw [List.length_append, List.length_singleton]; omega) (by rw [List.length_replicate]; omega) a0 (allW_zeros _ _ (by omega)) (fun z => Cg.of (by simp [ev])) (fun z => Cg.of (by rw [ev_zeros]; simp [ev])) (fun u v u1 v1 u2 v2 u3 v3 => ?_)
    rw [w64 (x := i + 1) (by omega) (by omega)]
    rw [List.length_append, List.length_singleton] at u1
    refine ih _ _ _ h.next (by omega) (by omega) u2 v2 (fun e he => ?_) (fun z => ?_)
    · rw [h.take] at he
      rcases List.mem_append.1 he with he | he
      · refine ((u3 e.f0).trans (((Cg.of (e0 _)).add ((Cg.refl c).mul (h6 e.f0))).trans (Cg.of ?_))).trans (h5 e he)
        rw [pr_zero (List.mem_map_of_mem he)]
        omega
      · rw [List.mem_singleton.1 he]
        refine (u3 y.f0).trans (((Cg.of (e0 _)).add (hc.mul q2.symm)).trans ?_)
        have hw : Cg (y.f1 - polyBack s y.f0 + 251) (y.f1 - polyBack s y.f0) := ⟨1, by omega⟩
        have hz : Cg ((y.f1 - polyBack s y.f0 + 251) * t * polyBack bs y.f0) (y.f1 - polyBack s y.f0) := by
          have := hw.mul t2
          rw [Int.mul_one, ← Int.mul_assoc] at this
          exact this
        exact (p2.symm.add hz).trans (Cg.of (by omega))
    · rw [h.take, List.map_append, List.map_singleton, pr_snoc]
      exact (v3 z).trans (((Cg.refl _).mul (h6 z)).trans (Cg.of (Int.mul_comm _ _)))
theorem impl_polyOf_ok (xs : List S57) (hv : VShs xs) : EvS (fun k => impl_polyOf.f k xs) (Thru (pts xs)) := by
  simp only [impl_polyOf.f]
  exact impl_polyOf_l0 xs hv xs 0 _ _ (At.zero _) rfl rfl (fun x hx => by simp at hx) (fun x hx => by rw [List.mem_singleton.1 hx]; omega) (fun e he => by simp at he) (fun z => Cg.of (by simp [ev, pr]))
/-- What both answer. -/
def Opened (l : List S57) (r : Int) : Prop := if VShs l ∧ 1 ≤ l.length ∧ l.length ≤ 8 then ∃ cs, Thru (pts l) cs ∧ r = rd cs 0 else r = -1
theorem opened_one {l : List S57} {a b : Int} (ha : Opened l a) (hb : Opened l b) : a = b := by
  unfold Opened at ha hb
  split at ha
  · rename_i h
    rw [if_pos h] at hb
    obtain ⟨cs, h1, rfl⟩ := ha
    obtain ⟨ds, h2, rfl⟩ := hb
    refine thru_one (ps := pts l) ?_ (fun p hp => ?_) h1 h2
    · have := h.1.2.1
      unfold pts
      rwa [List.map_map]
    · obtain ⟨e, he, rfl⟩ := List.mem_map.1 hp
      exact (h.1.2.2 e he).1
  · rename_i h
    rw [if_neg h] at hb
    omega
theorem spec_OpenSecret_ok (l : List S57) (hl : l.length ≤ 2000000) : EvS (fun k => spec_OpenSecret.f k l) (Opened l) := by
  simp only [spec_OpenSecret.f]
  refine EvS.bindv (spec_validShares_ok l hl) (EvS.ite (fun c => ?_) (fun c => EvS.now (by unfold Opened; rw [if_neg (fun g => ndec c g.1)])))
  have c := of_decide_eq_true c
  refine EvS.call (inRange_eq _ _ _) (EvS.ite (fun d => ?_) (fun d => EvS.now (by unfold Opened; rw [if_neg (fun g => ndec d (by omega))])))
  have d := of_decide_eq_true d
  refine EvS.bind (spec_through_ok l c) (fun t ht => ?_)
  have hlen := ht.1
  unfold pts at hlen
  rw [List.length_map] at hlen
  refine EvS.pos (by omega) (EvS.now ?_)
  unfold Opened
  rw [if_pos ⟨c, by omega, by omega⟩]
  exact ⟨t, ht, rfl⟩
theorem impl_OpenSecret_ok (l : List S57) (hl : l.length ≤ 2000000) : EvS (fun k => impl_OpenSecret.f k l) (Opened l) := by
  simp only [impl_OpenSecret.f]
  have none_ : ¬ (VShs l ∧ 1 ≤ l.length ∧ l.length ≤ 8) → EvS (fun k => if (([] : List Int).length : Int) = 0 then some (-1) else if 0 < (([] : List Int).length : Int) then some (rd ([] : List Int) 0) else none) (Opened l) := fun g => EvS.pos rfl (EvS.now (by unfold Opened; rw [if_neg g]))
  refine EvS.bind (Q := fun t => (t = [] ∧ ¬ (VShs l ∧ 1 ≤ l.length ∧ l.length ≤ 8)) ∨ (VShs l ∧ l.length ≤ 8 ∧ Thru (pts l) t)) ?_ (fun t ht => ?_)
  · simp only [impl_PolyThrough.f]
    refine EvS.ite (fun c => EvS.now (.inl ⟨rfl, fun g => by omega⟩)) (fun c => EvS.bindv (impl_ValidShares_ok l hl) (EvS.ite (fun d => ?_) (fun d => EvS.now (.inl ⟨rfl, fun g => ndec d g.1⟩))))
    exact EvS.bind (impl_polyOf_ok l (of_decide_eq_true d)) (fun t ht => EvS.now (.inr ⟨of_decide_eq_true d, by omega, ht⟩))
  · rcases ht with ⟨rfl, g⟩ | ⟨h1, h2, ht⟩
    · exact none_ g
    · have hlen := ht.1
      unfold pts at hlen
      rw [List.length_map] at hlen
      refine EvS.ite (fun c => EvS.now ?_) (fun c => EvS.pos (by omega) (EvS.now ?_))
      · unfold Opened
        rw [if_neg (fun g => by omega)]
      · unfold Opened
        rw [if_pos ⟨h1, by omega, h2⟩]
        exact ⟨t, ht, rfl⟩
def G59 (x : S59) : Prop := ((Lit.int .i64 x.f0).wf = true) ∧ ((Lit.int .i64 x.f1).wf = true)
theorem FnExactOpenSecret (l0 : List S59) (g0 : l0.length ≤ 9223372036854775807 ∧ ∀ y0 ∈ l0, G59 y0) : ∃ k, laws_FnExactOpenSecret.f k l0 = some true := by
  refine EvS.holds ?_
  simp only [laws_FnExactOpenSecret.f]
  refine EvS.call (szShare_eq l0 1048576 (by omega) (by omega) g0.1) ?_
  by_cases c : (1048576 : Int) - l0.length < 0
  · rw [if_pos c]; exact EvS.pos (by omega) (EvS.now rfl)
  · rw [if_neg c]
    have to0 := toShareS_ok l0 (by omega)
    have hm0 : (l0.map cvShare).length = l0.length := List.length_map _
    have he := eqShareS_ok (l0.map cvShare) (by omega)
    refine EvS.neg c (EvS.bindv to0 (EvS.bind (spec_OpenSecret_ok _ (by omega)) (fun a ha => EvS.bindv to0 (EvS.bind (impl_OpenSecret_ok _ (by omega)) (fun b hb => EvS.pos (opened_one hb ha) (EvS.bindv to0 (EvS.bindv he (EvS.pos rfl (EvS.now rfl)))))))))
end Go.Proofs.Ytnilffafnghngaa.Pure
