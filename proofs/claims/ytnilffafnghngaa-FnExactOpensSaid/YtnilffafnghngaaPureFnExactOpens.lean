/- Opens is what the reference tells, for all locks and all members. Conditions: none. -/
import Derived.Test.YtnilffafnghngaaMFnExactOpensx0
import Derived.Test.YtnilffafnghngaaMFnExactOpensx1
import Derived.Test.YtnilffafnghngaaMFnExactOpensx2
import Derived.Test.YtnilffafnghngaaMFnExactOpensx3
import Derived.Test.YtnilffafnghngaaMFnExactOpensx4
import Derived.Test.YtnilffafnghngaaMFnExactOpensx5
import Derived.Test.YtnilffafnghngaaMFnExactOpensx6
import Derived.Test.YtnilffafnghngaaMFnExactOpensx7
import Derived.Test.YtnilffafnghngaaBase
set_option linter.unusedVariables false
set_option linter.unusedSimpArgs false
namespace Go.Proofs.Ytnilffafnghngaa.Pure
open Go.RowKit Go.Proofs.Ytnilffafnghngaa.PFnExactOpens Go.Proofs.YtnilffafnghngaaW.PrintWords Go.Proofs.YtnilffafnghngaaW.PrintLast Go.Proofs.YtnilffafnghngaaW.PrintMore Go.Proofs.Ytnilffafnghngaa.Base
theorem u8_range {x : Int} (h : (Lit.int .u8 x).wf = true) : 0 ≤ x ∧ x ≤ 255 := by
  simp [Lit.wf, IntKind.min, IntKind.max, IntKind.bits, IntKind.signed] at h
  omega
/-! ## Lists of numbers. -/
theorem inRange_eq (n lo hi : Int) : spec_inRange.f n lo hi = some (decide (lo ≤ n ∧ n ≤ hi)) := by
  unfold spec_inRange.f
  split
  · exact congrArg some (decide_eq_decide.2 (by omega))
  · exact congrArg some (decide_eq_false (by omega)).symm
def AllW (xs : List Int) (lo hi : Int) : Prop := ∀ x ∈ xs, lo ≤ x ∧ x ≤ hi
instance (xs : List Int) (lo hi : Int) : Decidable (AllW xs lo hi) := by unfold AllW; infer_instance
theorem allW_cons (y : Int) (ys : List Int) (lo hi : Int) : AllW (y :: ys) lo hi ↔ (lo ≤ y ∧ y ≤ hi) ∧ AllW ys lo hi := by
  unfold AllW; simp
/-- The first place of a number, counted from i on; -1 if it is not there. -/
def posF (v : Int) : Int → List Int → Int
  | _, [] => -1
  | i, x :: xs => if x = v then i else posF v (i + 1) xs
theorem posF_range (v : Int) (xs : List Int) : ∀ i : Int, 0 ≤ i → (v ∈ xs → i ≤ posF v i xs ∧ posF v i xs < i + xs.length) ∧ (v ∉ xs → posF v i xs = -1) := by
  induction xs with
  | nil => intro i h0; exact ⟨fun h => by simp at h, fun _ => rfl⟩
  | cons x xs ih =>
    intro i h0
    have h := ih (i + 1) (by omega)
    simp only [posF, List.length_cons]
    by_cases c : x = v
    · rw [if_pos c]; exact ⟨fun _ => by omega, fun g => absurd (by simp [c]) g⟩
    · rw [if_neg c]
      refine ⟨fun g => ?_, fun g => h.2 (fun g2 => g (List.mem_cons_of_mem _ g2))⟩
      have := h.1 ((List.mem_cons.1 g).resolve_left (fun e => c e.symm))
      omega
theorem posF_nonneg (v : Int) (xs : List Int) (i : Int) (h : 0 ≤ i) : (0 ≤ posF v i xs) ↔ v ∈ xs := by
  by_cases c : v ∈ xs
  · have := (posF_range v xs i h).1 c; exact ⟨fun _ => c, fun _ => by omega⟩
  · have := (posF_range v xs i h).2 c; exact ⟨fun g => by omega, fun g => absurd g c⟩
theorem placeIn_l0 (xs : List Int) (hl : xs.length ≤ 1099511627776) (v : Int) (ys : List Int) : ∀ i : Int, At xs i ys → EvS (fun k => spec_placeIn.l0 k xs v i) (· = posF v i ys) := by
  induction ys with
  | nil =>
    intro i h
    refine EvS.step (fun k => by rw [spec_placeIn.l0]) ?_
    exact EvS.neg (by have := h.ge; omega) (EvS.now rfl)
  | cons y ys ih =>
    intro i h
    have h1 := h.lt
    have h2 := h.nonneg
    have hw : wrap64 (i + 1) = i + 1 := w64 (by omega) (by omega)
    refine EvS.step (fun k => by rw [spec_placeIn.l0]) ?_
    refine EvS.pos h.lt (EvS.pos h.nonneg ?_)
    rw [At.rd h, hw, posF]
    by_cases c : y = v
    · rw [if_pos c]; exact EvS.pos c (EvS.now rfl)
    · rw [if_neg c]; exact EvS.neg c (ih _ h.next)
theorem placeIn_ok (xs : List Int) (hl : xs.length ≤ 1099511627776) (v : Int) : EvS (fun k => spec_placeIn.f k xs v) (· = posF v 0 xs) := by
  simp only [spec_placeIn.f]
  exact placeIn_l0 xs hl v xs 0 (At.zero xs)
/-- Different numbers from 0 to n - 1. -/
def Diff (xs : List Int) (n : Int) : Prop := xs.Nodup ∧ ∀ x ∈ xs, 0 ≤ x ∧ x < n
instance (xs : List Int) (n : Int) : Decidable (Diff xs n) := by unfold Diff; infer_instance
def DiffF (pre ys : List Int) (n : Int) : Prop := ys.Nodup ∧ ∀ y ∈ ys, 0 ≤ y ∧ y < n ∧ y ∉ pre
instance (pre ys : List Int) (n : Int) : Decidable (DiffF pre ys n) := by unfold DiffF; infer_instance
theorem diffF_cons (pre : List Int) (y : Int) (ys : List Int) (n : Int) : DiffF pre (y :: ys) n ↔ (0 ≤ y ∧ y < n ∧ y ∉ pre) ∧ DiffF (y :: pre) ys n := by
  unfold DiffF
  constructor
  · rintro ⟨h1, h2⟩
    have h1 := List.nodup_cons.1 h1
    refine ⟨h2 y List.mem_cons_self, h1.2, fun z hz => ?_⟩
    have := h2 z (List.mem_cons_of_mem _ hz)
    refine ⟨this.1, this.2.1, fun hm => ?_⟩
    rcases List.mem_cons.1 hm with rfl | hm
    · exact h1.1 hz
    · exact this.2.2 hm
  · rintro ⟨h1, h2, h3⟩
    refine ⟨List.nodup_cons.2 ⟨fun hm => (h3 y hm).2.2 List.mem_cons_self, h2⟩, fun z hz => ?_⟩
    rcases List.mem_cons.1 hz with rfl | hz
    · exact h1
    · have := h3 z hz
      exact ⟨this.1, this.2.1, fun hm => this.2.2 (List.mem_cons_of_mem _ hm)⟩
theorem diffF_congr {p q ys : List Int} {n : Int} (h : ∀ x, x ∈ p ↔ x ∈ q) : DiffF p ys n ↔ DiffF q ys n := by
  unfold DiffF
  simp only [h]
theorem diffF_nil (xs : List Int) (n : Int) : DiffF [] xs n ↔ Diff xs n := by
  unfold DiffF Diff; simp
theorem diff_len {xs : List Int} {n : Int} (h : Diff xs n) : (xs.length : Int) ≤ n ∨ xs = [] := by
  rcases xs with _ | ⟨x, xs⟩
  · exact .inr rfl
  · left
    have h1 : 0 ≤ n := by have := h.2 x List.mem_cons_self; omega
    have h2 : (x :: xs) ⊆ (List.range n.toNat).map (fun m : Nat => (m : Int)) := by
      intro y hy
      have := h.2 y hy
      exact List.mem_map.2 ⟨y.toNat, List.mem_range.2 (by omega), by omega⟩
    have h3 := h.1.length_le_of_subset h2
    rw [List.length_map, List.length_range] at h3
    omega
theorem differentBelow_l0 (xs : List Int) (hl : xs.length ≤ 1099511627776) (n : Int) (ys : List Int) : ∀ (i : Int) (seen : List Bool) (pre : List Int), At xs i ys → (seen.length : Int) = n → (∀ v : Int, 0 ≤ v → v < n → (rdOf false seen v = true ↔ v ∈ pre)) →
    EvS (fun k => impl_differentBelow.l0 k n seen xs xs.length i) (· = decide (DiffF pre ys n)) := by
  induction ys with
  | nil =>
    intro i seen pre h hs hv
    refine EvS.step (fun k => by rw [impl_differentBelow.l0]) ?_
    exact EvS.neg (by have := h.ge; omega) (EvS.now (by simp [DiffF]))
  | cons y ys ih =>
    intro i seen pre h hs hv
    refine EvS.step (fun k => by rw [impl_differentBelow.l0]) ?_
    refine EvS.pos h.lt (EvS.pos h.nonneg (EvS.pos h.lt ?_))
    rw [At.rd h]
    refine EvS.ite (fun c => EvS.now (decide_eq_false (fun g => by have := ((diffF_cons _ _ _ _).1 g).1; omega)).symm) (fun c1 => EvS.ite (fun c => EvS.now (decide_eq_false (fun g => by have := ((diffF_cons _ _ _ _).1 g).1; omega)).symm) (fun c2 => EvS.pos (by omega) (EvS.pos (by omega) ?_)))
    have hy := hv y (by omega) (by omega)
    refine EvS.ite (fun c => EvS.now (decide_eq_false (fun g => ((diffF_cons _ _ _ _).1 g).1.2.2 (hy.1 c))).symm) (fun c3 => ?_)
    refine EvS.mono (ih _ (seen.set y.toNat true) (y :: pre) (h.wnext (by omega)) (by simpa using hs) (fun v h0 h1 => ?_)) (fun r hr => ?_)
    · unfold rdOf
      rw [List.getD_eq_getElem?_getD, List.getElem?_set]
      by_cases e : y = v
      · subst e
        rw [if_pos rfl, if_pos (by omega)]
        exact ⟨fun _ => List.mem_cons_self, fun _ => rfl⟩
      · rw [if_neg (by omega)]
        have := hv v h0 h1
        unfold rdOf at this
        rw [List.getD_eq_getElem?_getD] at this
        rw [this, List.mem_cons]
        exact ⟨fun g => .inr g, fun g => g.resolve_left (fun e2 => e e2.symm)⟩
    · rw [hr]
      exact decide_eq_decide.2 ⟨fun g => (diffF_cons _ _ _ _).2 ⟨⟨by omega, by omega, fun hm => c3 (hy.2 hm)⟩, g⟩, fun g => ((diffF_cons _ _ _ _).1 g).2⟩
theorem differentBelow_ok (xs : List Int) (hl : xs.length ≤ 1099511627776) (n : Int) (hn : n ≤ 1099511627776) (h0 : 0 ≤ n) : EvS (fun k => impl_differentBelow.f k xs n) (· = decide (Diff xs n)) := by
  simp only [impl_differentBelow.f]
  refine EvS.ite (fun c => EvS.now (decide_eq_false (fun g => ?_)).symm) (fun c => EvS.pos h0 (EvS.pos (by omega) ?_))
  · rcases diff_len g with h | h
    · omega
    · subst h; simp at c; omega
  · refine EvS.mono (differentBelow_l0 xs hl n xs 0 _ [] (At.zero xs) (by simp; omega) (fun v _ _ => ?_)) (fun r hr => ?_)
    · unfold rdOf
      rw [List.getD_eq_getElem?_getD, List.getElem?_replicate]
      split <;> simp
    · rw [hr]
      exact decide_eq_decide.2 (diffF_nil xs n)
theorem validMembers_l0 (xs : List Int) (hl : xs.length ≤ 1099511627776) (n : Int) (hn : n ≤ 1099511627776) (h0 : 0 ≤ n) (ys : List Int) : ∀ i : Int, At xs i ys → EvS (fun k => spec_validMembers.l0 k xs n i) (· = decide (DiffF (xs.take i.toNat) ys n)) := by
  induction ys with
  | nil =>
    intro i h
    refine EvS.step (fun k => by rw [spec_validMembers.l0]) ?_
    exact EvS.neg (by have := h.ge; omega) (EvS.now (by simp [DiffF]))
  | cons y ys ih =>
    intro i h
    have h1 := h.lt
    have h2 := h.nonneg
    have hw : wrap64 (i + 1) = i + 1 := w64 (by omega) (by omega)
    refine EvS.step (fun k => by rw [spec_validMembers.l0]) ?_
    refine EvS.pos h.lt (EvS.pos h.nonneg ?_)
    rw [At.rd h, hw, w64 (x := n - 1) (by omega) (by omega)]
    refine EvS.call (inRange_eq _ _ _) (EvS.ite (fun c => EvS.pos (by omega) ?_) (fun c => EvS.now ?_))
    · have c := of_decide_eq_true c
      refine EvS.bindv (placeIn_ok _ (by rw [List.length_take]; omega) y) ?_
      have hp := posF_nonneg y (xs.take i.toNat) 0 (by omega)
      refine EvS.ite (fun g => EvS.now (decide_eq_false (fun g2 => ((diffF_cons _ _ _ _).1 g2).1.2.2 (hp.1 g))).symm) (fun g => ?_)
      refine EvS.mono (ih _ h.next) (fun r hr => ?_)
      rw [hr]
      refine decide_eq_decide.2 (Iff.trans (diffF_congr (q := y :: xs.take i.toNat) (fun x => ?_)) ⟨fun g2 => (diffF_cons _ _ _ _).2 ⟨⟨c.1, by omega, fun hm => g (hp.2 hm)⟩, g2⟩, fun g2 => ((diffF_cons _ _ _ _).1 g2).2⟩)
      simp only [h.take, List.mem_append, List.mem_cons, List.not_mem_nil, or_false]
      exact or_comm
    · have c := ndec c
      exact (decide_eq_false (fun g => c (by have := ((diffF_cons _ _ _ _).1 g).1; omega))).symm
theorem validMembers_ok (xs : List Int) (hl : xs.length ≤ 1099511627776) (n : Int) (hn : n ≤ 1099511627776) (h0 : 0 ≤ n) : EvS (fun k => spec_validMembers.f k xs n) (· = decide (Diff xs n)) := by
  simp only [spec_validMembers.f]
  refine EvS.mono (validMembers_l0 xs hl n hn h0 xs 0 (At.zero xs)) (fun r hr => ?_)
  rw [hr]
  exact decide_eq_decide.2 (diffF_nil xs n)
/-! ## Sets told as numbers. -/
def hasB (s : Int) : Nat → Bool
  | 0 => s % 2 == 1
  | n + 1 => hasB (s / 2) n
def pow2 : Nat → Int
  | 0 => 1
  | n + 1 => 2 * pow2 n
theorem pow2_pos (n : Nat) : 1 ≤ pow2 n := by
  induction n with
  | zero => simp [pow2]
  | succ n ih => simp only [pow2]; omega
theorem pow2_le (n : Nat) (h : n ≤ 40) : pow2 n ≤ 1099511627776 := by
  have mono : ∀ d n : Nat, pow2 n ≤ pow2 (n + d) := by
    intro d
    induction d with
    | zero => intro n; exact Int.le_refl _
    | succ d ih => intro n; have h1 := ih n; have h2 := pow2_pos (n + d); show pow2 n ≤ 2 * pow2 (n + d); omega
  have := mono (40 - n) n
  rw [show n + (40 - n) = 40 by omega] at this
  have e : pow2 40 = 1099511627776 := by decide
  omega
theorem pow2_12 (n : Nat) (h : n ≤ 12) : pow2 n ≤ 4096 := by
  have : ∀ n : Fin 13, pow2 n.val ≤ 4096 := by decide
  exact this ⟨n, by omega⟩
theorem hasB_add (m : Nat) : ∀ (s : Int) (i : Nat), 0 ≤ s → hasB s m = false → hasB (s + pow2 m) i = (decide (i = m) || hasB s i) := by
  induction m with
  | zero =>
    intro s i h0 h
    have h1 : s % 2 ≠ 1 := by simpa [hasB] using h
    cases i with
    | zero => simp only [hasB, pow2]; have : (s + 1) % 2 = 1 := by omega
              simp [this]
    | succ i => simp only [hasB, pow2]; have : (s + 1) / 2 = s / 2 := by omega
                simp [this]
  | succ m ih =>
    intro s i h0 h
    simp only [hasB] at h
    cases i with
    | zero =>
      simp only [hasB, pow2]
      have : (s + 2 * pow2 m) % 2 = s % 2 := by omega
      simp [this]
    | succ i =>
      simp only [hasB, pow2]
      have : (s + 2 * pow2 m) / 2 = s / 2 + pow2 m := by omega
      rw [this, ih _ _ (by omega) h]
      simp
def setS : List Int → Int
  | [] => 0
  | m :: ms => pow2 m.toNat + setS ms
theorem setS_nonneg (ms : List Int) : 0 ≤ setS ms := by
  induction ms with
  | nil => simp [setS]
  | cons m ms ih => have := pow2_pos m.toNat; simp only [setS]; omega
theorem hasB_zero (i : Nat) : hasB 0 i = false := by
  induction i with
  | zero => rfl
  | succ i ih => exact ih
theorem hasB_setS (ms : List Int) (hd : ms.Nodup) (h0 : ∀ m ∈ ms, 0 ≤ m) (i : Int) (hi : 0 ≤ i) : hasB (setS ms) i.toNat = decide (i ∈ ms) := by
  induction ms generalizing i with
  | nil => simp [setS, hasB_zero]
  | cons m ms ih =>
    have h1 := List.nodup_cons.1 hd
    have h2 := h0 m List.mem_cons_self
    have ih := ih h1.2 (fun x hx => h0 x (List.mem_cons_of_mem _ hx))
    simp only [setS]
    rw [Int.add_comm, hasB_add _ _ _ (setS_nonneg ms) (by rw [ih m h2]; exact decide_eq_false h1.1), ih i hi]
    rw [Bool.eq_iff_iff]
    simp only [Bool.or_eq_true, decide_eq_true_eq, List.mem_cons]
    have e : i.toNat = m.toNat ↔ i = m := by omega
    rw [e]
theorem spec_has_l0 (n : Int) (hn : n ≤ 1000) (d : Nat) : ∀ (s i : Int), 0 ≤ s → s ≤ 4611686018427387904 → i + d = n → 0 ≤ i → EvS (fun k => spec_has.l0 k s n i) (· = hasB s d) := by
  induction d with
  | zero =>
    intro s i h0 h1 e i0
    refine EvS.step (fun k => by rw [spec_has.l0]) ?_
    refine EvS.neg (by omega) (EvS.now ?_)
    rw [tmod_pos s 2 h0]; rfl
  | succ d ih =>
    intro s i h0 h1 e i0
    refine EvS.step (fun k => by rw [spec_has.l0]) ?_
    rw [tdiv_pos s 2 h0, w64 (x := s / 2) (by omega) (by omega), w64 (x := i + 1) (by omega) (by omega)]
    exact EvS.pos (by omega) (ih (s / 2) (i + 1) (by omega) (by omega) (by omega) (by omega))
theorem spec_has_ok (s i : Int) (h0 : 0 ≤ s) (h1 : s ≤ 4611686018427387904) (i0 : 0 ≤ i) (i1 : i ≤ 1000) : EvS (fun k => spec_has.f k s i) (· = hasB s i.toNat) := by
  simp only [spec_has.f]
  exact spec_has_l0 i i1 i.toNat s 0 h0 h1 (by omega) (by omega)
theorem spec_power_l0 (n : Int) (hn : n ≤ 40) (d : Nat) : ∀ (i : Int) (e : Nat), i + d = n → i = e → EvS (fun k => spec_power.l0 k n (pow2 e) i) (· = pow2 (e + d)) := by
  induction d with
  | zero =>
    intro i e h1 h2
    refine EvS.step (fun k => by rw [spec_power.l0]) ?_
    exact EvS.neg (by omega) (EvS.now rfl)
  | succ d ih =>
    intro i e h1 h2
    have hp := pow2_le e (by omega)
    have hp2 := pow2_pos e
    refine EvS.step (fun k => by rw [spec_power.l0]) ?_
    rw [w64 (x := 2 * pow2 e) (by omega) (by omega), w64 (x := i + 1) (by omega) (by omega)]
    refine EvS.pos (by omega) (EvS.mono (ih (i + 1) (e + 1) (by omega) (by omega)) (fun r hr => ?_))
    rw [hr, show e + (d + 1) = e + 1 + d by omega]
theorem spec_power_ok (n : Int) (h0 : 0 ≤ n) (hn : n ≤ 40) : EvS (fun k => spec_power.f k n) (· = pow2 n.toNat) := by
  simp only [spec_power.f]
  have := spec_power_l0 n hn n.toNat 0 0 (by omega) rfl
  rwa [Nat.zero_add] at this
theorem setS_bound (ms : List Int) (hm : ∀ m ∈ ms, 0 ≤ m ∧ m ≤ 12) : setS ms ≤ 4096 * (ms.length : Int) := by
  induction ms with
  | nil => simp [setS]
  | cons m ms ih =>
    have h1 := ih (fun x hx => hm x (List.mem_cons_of_mem _ hx))
    have h2 := hm m List.mem_cons_self
    have h3 := pow2_12 m.toNat (by omega)
    simp only [setS, List.length_cons]
    omega
theorem spec_setOf_l0 (ms : List Int) (hl : ms.length ≤ 1000) (hm : ∀ m ∈ ms, 0 ≤ m ∧ m ≤ 12) (ys : List Int) : ∀ i acc : Int, At ms i ys → 0 ≤ acc → acc ≤ 4096 * i → EvS (fun k => spec_setOf.l0 k ms acc i) (· = acc + setS ys) := by
  induction ys with
  | nil =>
    intro i acc h a0 a1
    refine EvS.step (fun k => by rw [spec_setOf.l0]) ?_
    exact EvS.neg (by have := h.ge; omega) (EvS.now (by simp [setS]))
  | cons y ys ih =>
    intro i acc h a0 a1
    have g1 := h.lt
    have g2 := h.nonneg
    have hy := hm y h.mem
    have h3 := pow2_12 y.toNat (by omega)
    have h4 := pow2_pos y.toNat
    refine EvS.step (fun k => by rw [spec_setOf.l0]) ?_
    rw [At.rd h, w64 (x := i + 1) (by omega) (by omega)]
    refine EvS.pos h.lt (EvS.pos h.nonneg (EvS.bindv (spec_power_ok y hy.1 (by omega)) ?_))
    rw [w64 (x := acc + pow2 y.toNat) (by omega) (by omega)]
    refine EvS.mono (ih (i + 1) _ h.next (by omega) (by omega)) (fun r hr => ?_)
    rw [hr, setS]; omega
theorem spec_setOf_ok (ms : List Int) (hl : ms.length ≤ 1000) (hm : ∀ m ∈ ms, 0 ≤ m ∧ m ≤ 12) : EvS (fun k => spec_setOf.f k ms) (· = setS ms) := by
  simp only [spec_setOf.f]
  refine EvS.mono (spec_setOf_l0 ms hl hm ms 0 0 (At.zero _) (by omega) (by omega)) (fun r hr => ?_)
  rw [hr]; omega
/-! ## Amounts divided into equal parts. -/
theorem list_ext {xs ys : List Int} (hl : xs.length = ys.length) (h : ∀ i : Int, 0 ≤ i → i < xs.length → rd xs i = rd ys i) : xs = ys := by
  apply List.ext_getElem hl
  intro n h1 h2
  have := h n (by omega) (by omega)
  unfold rd at this
  simp only [Int.toNat_natCast] at this
  rw [List.getD_eq_getElem?_getD, List.getD_eq_getElem?_getD, List.getElem?_eq_getElem h1, List.getElem?_eq_getElem h2] at this
  exact this
theorem rd_set (xs : List Int) (i j v : Int) (h0 : 0 ≤ i) (h1 : i < xs.length) (h2 : 0 ≤ j) : rd (xs.set i.toNat v) j = if i = j then v else rd xs j := by
  unfold rd
  rw [List.getD_eq_getElem?_getD, List.getElem?_set]
  by_cases c : i = j
  · subst c; rw [if_pos rfl, if_pos (by omega), if_pos rfl]; rfl
  · rw [if_neg (by omega), if_neg c, List.getD_eq_getElem?_getD]
theorem rd_zeros (n : Nat) (j : Int) : rd (List.replicate n 0) j = 0 := by
  unfold rd
  rw [List.getD_eq_getElem?_getD, List.getElem?_replicate]
  split <;> rfl
theorem rd_snoc (xs : List Int) (v j : Int) (h0 : 0 ≤ j) : rd (xs ++ [v]) j = if j < xs.length then rd xs j else if j = xs.length then v else 0 := by
  unfold rd
  rw [List.getD_eq_getElem?_getD, List.getD_eq_getElem?_getD]
  by_cases c : j < xs.length
  · rw [if_pos c, List.getElem?_append_left (by omega)]
  · rw [if_neg c, List.getElem?_append_right (by omega)]
    by_cases c2 : j = xs.length
    · rw [if_pos c2, c2]; simp
    · rw [if_neg c2, List.getElem?_eq_none (by simp; omega)]; rfl
/-! ## What an exact law asks of lists of numbers. -/
theorem toIntS_l0 (xs : List Int) (hl : xs.length ≤ 4000000) (ys : List Int) : ∀ (i : Int) (s : List Int), At xs i ys → s.length = xs.length → (∀ j : Int, 0 ≤ j → j < i → rd s j = rd xs j) → EvS (fun k => laws_toIntS.l0 k xs s i) (· = xs) := by
  induction ys with
  | nil =>
    intro i s h h1 h2
    have := h.ge
    refine EvS.step (fun k => by rw [laws_toIntS.l0]) ?_
    exact EvS.neg (by omega) (EvS.now (list_ext h1 (fun j j0 j1 => h2 j j0 (by omega))))
  | cons y ys ih =>
    intro i s h h1 h2
    have g1 := h.lt
    have g2 := h.nonneg
    refine EvS.step (fun k => by rw [laws_toIntS.l0]) ?_
    refine EvS.pos h.lt (EvS.pos h.nonneg (EvS.pos (by omega) ?_))
    refine ih _ _ (h.wnext (by omega)) (by simpa using h1) (fun j j0 j1 => ?_)
    rw [w64 (by omega) (by omega)] at j1
    rw [rd_set _ _ _ _ g2 (by omega) j0]
    by_cases e : i = j
    · rw [if_pos e, e]
    · rw [if_neg e]; exact h2 j j0 (by omega)
theorem toIntS_ok (xs : List Int) (hl : xs.length ≤ 4000000) : EvS (fun k => laws_toIntS.f k xs) (· = xs) := by
  simp only [laws_toIntS.f]
  exact EvS.pos (by omega) (EvS.pos (by omega) (toIntS_l0 xs hl xs 0 _ (At.zero _) (by simp) (fun j j0 j1 => by omega)))
theorem eqIntS_l0 (xs : List Int) (hl : xs.length ≤ 4000000) (ys : List Int) : ∀ i : Int, At xs i ys → EvS (fun k => laws_eqIntS.l0 k xs xs i) (· = true) := by
  induction ys with
  | nil =>
    intro i h
    refine EvS.step (fun k => by rw [laws_eqIntS.l0]) ?_
    exact EvS.neg (by have := h.ge; omega) (EvS.now rfl)
  | cons y ys ih =>
    intro i h
    refine EvS.step (fun k => by rw [laws_eqIntS.l0]) ?_
    exact EvS.pos h.lt (EvS.pos h.nonneg (EvS.pos h.lt (EvS.pos (by simp) (ih _ (h.wnext (by omega))))))
theorem eqIntS_ok (xs : List Int) (hl : xs.length ≤ 4000000) : EvS (fun k => laws_eqIntS.f k xs xs) (· = true) := by
  simp only [laws_eqIntS.f]
  exact EvS.pos (by trivial) (eqIntS_l0 xs hl xs 0 (At.zero xs))
structure Marked (k : Int) (n : Nat) (m : List Int) : Prop where
  len : m.length = n
  val : ∀ j : Int, 0 ≤ j → j < n → rd m j = k + j
/-! ## Locks. -/
theorem or_bit (s : Nat) (hs : s < 256) (m : Nat) (hm : m < 8) : Go.bits .or .i64 (s : Int) (pow2 m) = (if hasB s m = true then (s : Int) else s + pow2 m) ∧ Go.bits .or .i64 (s : Int) (pow2 m) < 256 := by
  have h : ∀ m : Fin 8, ∀ s : Fin 256, Go.bits .or .i64 (s.val : Int) (pow2 m.val) = (if hasB s.val m.val = true then (s.val : Int) else s.val + pow2 m.val) ∧ Go.bits .or .i64 (s.val : Int) (pow2 m.val) < 256 := by decide +kernel
  exact h ⟨m, hm⟩ ⟨s, hs⟩
theorem and_bit (s : Nat) (hs : s < 256) (m : Nat) (hm : m < 8) : Go.bits .and .i64 (shr .i64 (s : Int) (m : Int)) 1 = if hasB s m = true then 1 else 0 := by
  have h : ∀ m : Fin 8, ∀ s : Fin 256, Go.bits .and .i64 (shr .i64 (s.val : Int) ((m.val : Nat) : Int)) 1 = if hasB s.val m.val = true then 1 else 0 := by decide +kernel
  exact h ⟨m, hm⟩ ⟨s, hs⟩
theorem shl_bit (m : Nat) (hm : m < 8) : shl .i64 1 (m : Int) = pow2 m := by
  have h : ∀ m : Fin 8, shl .i64 1 ((m.val : Nat) : Int) = pow2 m.val := by decide +kernel
  exact h ⟨m, hm⟩
theorem impl_setOf_l0 (ms : List Int) (hl : ms.length ≤ 1000) (ys : List Int) : ∀ (i s : Int), At ms i ys → 0 ≤ s → s < 256 → ys.Nodup → (∀ y ∈ ys, (0 ≤ y ∧ y < 8) ∧ hasB s y.toNat = false) → EvS (fun k => impl_setOf.l0 k s ms ms.length i) (fun r => r = s + setS ys ∧ r < 256) := by
  induction ys with
  | nil =>
    intro i s h h0 h1 _ _
    refine EvS.step (fun k => by rw [impl_setOf.l0]) ?_
    exact EvS.neg (by have := h.ge; omega) (EvS.now ⟨by simp [setS], h1⟩)
  | cons y ys ih =>
    intro i s h h0 h1 hd hy
    have hy0 := hy y List.mem_cons_self
    have hd2 := List.nodup_cons.1 hd
    obtain ⟨n, rfl⟩ := Int.eq_ofNat_of_zero_le h0
    obtain ⟨m, rfl⟩ := Int.eq_ofNat_of_zero_le hy0.1.1
    have ho := or_bit n (by omega) m (by omega)
    have hb : hasB (n : Int) m = false := by simpa using hy0.2
    rw [if_neg (by rw [hb]; simp)] at ho
    have hp := pow2_pos m
    refine EvS.step (fun k => by rw [impl_setOf.l0]) ?_
    refine EvS.pos h.lt (EvS.pos h.nonneg (EvS.pos h.lt ?_))
    rw [At.rd h, shl_bit m (by omega), ho.1]
    refine EvS.pos (by omega) (EvS.mono (ih _ _ (h.wnext (by omega)) (by omega) (by have := ho.2; rw [ho.1] at this; exact this) hd2.2 (fun z hz => ⟨(hy z (List.mem_cons_of_mem _ hz)).1, ?_⟩)) (fun r hr => ⟨?_, hr.2⟩))
    · have hz2 := hy z (List.mem_cons_of_mem _ hz)
      have hzm : ¬ z.toNat = m := fun e => hd2.1 (by rw [show (m : Int) = z by omega]; exact hz)
      rw [hasB_add m (n : Int) z.toNat (by omega) hb, hz2.2, decide_eq_false hzm]
      rfl
    · rw [hr.1]; simp only [setS, Int.toNat_natCast]; omega
theorem impl_setOf_ok (ms : List Int) (hl : ms.length ≤ 1000) (hd : Diff ms 8) : EvS (fun k => impl_setOf.f k ms) (fun r => r = setS ms ∧ r < 256) := by
  simp only [impl_setOf.f]
  refine EvS.mono (impl_setOf_l0 ms hl ms 0 0 (At.zero _) (by omega) (by omega) hd.1 (fun y hy => ⟨hd.2 y hy, hasB_zero _⟩)) (fun r hr => ⟨by rw [hr.1]; omega, hr.2⟩)
theorem at_rdL {xs ys : List S38} {i : Int} {y : S38} (h : At xs i (y :: ys)) : rd_T38 xs i = y := h.getD _
def sumC (f : S38 → Int) : List S38 → Int
  | [] => 0
  | y :: ys => f y + sumC f ys
/-- A lock that is not deeper than d, and whose lists are not long. -/
def OkD : Nat → S38 → Prop
  | 0, _ => False
  | d + 1, x => x.f1.length ≤ 1048576 ∧ x.f2.length ≤ 1048576 ∧ ∀ y ∈ x.f2, OkD d y
def VD : Nat → S38 → Prop
  | 0, _ => False
  | d + 1, x => ((1 ≤ x.f0 ∧ x.f0 ≤ (x.f1.length : Int) + x.f2.length) ∧ (x.f1.length : Int) + x.f2.length ≤ 8 ∧ Diff x.f1 8) ∧ ∀ y ∈ x.f2, VD d y
def cD : Nat → S38 → Int
  | 0, _ => 1
  | d + 1, x => 1 + sumC (cD d) x.f2
def opD : Nat → Int → S38 → Bool
  | 0, _, _ => false
  | d + 1, s, x => decide (x.f0 ≤ (x.f1.countP (fun m => hasB s m.toNat) : Int) + (x.f2.countP (opD d s) : Int))
theorem sumC_nonneg {f : S38 → Int} (hf : ∀ x, 1 ≤ f x) (ys : List S38) : 0 ≤ sumC f ys ∧ ∀ y ∈ ys, f y ≤ sumC f ys := by
  induction ys with
  | nil => exact ⟨Int.le_refl _, fun y hy => by simp at hy⟩
  | cons y ys ih =>
    have := hf y
    simp only [sumC]
    refine ⟨by omega, fun z hz => ?_⟩
    rcases List.mem_cons.1 hz with rfl | hz
    · omega
    · have := ih.2 z hz; omega
theorem cD_pos (d : Nat) : ∀ x, 1 ≤ cD d x := by
  induction d with
  | zero => intro x; exact Int.le_refl _
  | succ d ih => intro x; have := (sumC_nonneg ih x.f2).1; simp only [cD]; omega
def Cnt (d : Nat) (x : S38) (left : Int) : Prop := VD d x ∧ cD d x ≤ left
/-! ### the program's count -/
theorem count_l0 (d : Nat) (x : S38) (left : Int) (h12 : left ≤ 12) (h1 : 1 ≤ left) (hx : OkD (d + 1) x) (hloc : (1 ≤ x.f0 ∧ x.f0 ≤ (x.f1.length : Int) + x.f2.length) ∧ (x.f1.length : Int) + x.f2.length ≤ 8 ∧ Diff x.f1 8)
    (ih : ∀ y left, left ≤ 12 → OkD d y → EvS (fun k => impl_lockCount.f k y.f0 y.f1 y.f2 left) (fun r => (Cnt d y left ∧ r = cD d y) ∨ (¬ Cnt d y left ∧ 12 < r ∧ r ≤ 13 + 12 * (left.toNat : Int)))) (ys : List S38) :
    ∀ (i c : Int), At x.f2 i ys → 1 ≤ c → c ≤ left → c + sumC (cD d) ys = cD (d + 1) x → ((∀ y ∈ ys, VD d y) → ∀ y ∈ x.f2, VD d y) →
    EvS (fun k => impl_lockCount.l0 k left c x.f2 x.f2.length i) (fun r => (Cnt (d + 1) x left ∧ r = cD (d + 1) x) ∨ (¬ Cnt (d + 1) x left ∧ 12 < r ∧ r ≤ 13 + 12 * (left.toNat : Int))) := by
  induction ys with
  | nil =>
    intro i c h c1 c2 hs hv
    simp only [sumC, Int.add_zero] at hs
    refine EvS.step (fun k => by rw [impl_lockCount.l0]) ?_
    exact EvS.neg (by have := h.ge; omega) (EvS.now (.inl ⟨⟨⟨hloc, hv (fun y hy => by simp at hy)⟩, by omega⟩, hs⟩))
  | cons y ys ih2 =>
    intro i c h c1 c2 hs hv
    have hlen := hx.2.1
    have hy := hx.2.2 y h.mem
    have hp := sumC_nonneg (cD_pos d) ys
    have hcy := cD_pos d y
    simp only [sumC] at hs
    refine EvS.step (fun k => by rw [impl_lockCount.l0]) ?_
    refine EvS.pos h.lt (EvS.pos h.nonneg (EvS.pos h.lt ?_))
    rw [at_rdL h, w64 (x := left - c) (by omega) (by omega)]
    refine EvS.bind (ih y (left - c) (by omega) hy) (fun t ht => ?_)
    rcases ht with ⟨⟨g1, g2⟩, rfl⟩ | ⟨g1, g2, g3⟩
    · rw [w64 (x := c + cD d y) (by omega) (by omega)]
      refine EvS.neg (by omega) (ih2 _ _ (h.wnext (by omega)) (by omega) (by omega) (by omega) (fun q => hv (fun z hz => ?_)))
      rcases List.mem_cons.1 hz with rfl | hz
      · exact g1
      · exact q z hz
    · rw [w64 (x := c + t) (by omega) (by omega)]
      refine EvS.pos (by omega) (EvS.now (.inr ⟨fun q => g1 ⟨q.1.2 y h.mem, ?_⟩, by omega, by omega⟩))
      have := q.2
      omega
theorem impl_lockCount_ok (d : Nat) : ∀ (x : S38) (left : Int), left ≤ 12 → OkD d x → EvS (fun k => impl_lockCount.f k x.f0 x.f1 x.f2 left) (fun r => (Cnt d x left ∧ r = cD d x) ∨ (¬ Cnt d x left ∧ 12 < r ∧ r ≤ 13 + 12 * (left.toNat : Int))) := by
  induction d with
  | zero => intro x left _ hx; exact absurd hx (by simp [OkD])
  | succ d ih =>
    intro x left h12 hx
    have hl1 := hx.1
    have hl2 := hx.2.1
    have jt : ¬ Cnt (d + 1) x left → EvS (fun k => impl_lockCount.j0 k left true x.f0 x.f1 x.f2) (fun r => (Cnt (d + 1) x left ∧ r = cD (d + 1) x) ∨ (¬ Cnt (d + 1) x left ∧ 12 < r ∧ r ≤ 13 + 12 * (left.toNat : Int))) := by
      intro g
      refine EvS.step (fun k => by rw [impl_lockCount.j0]) ?_
      exact EvS.pos rfl (EvS.now (.inr ⟨g, by omega, by omega⟩))
    have hc := cD_pos (d + 1) x
    refine EvS.step (fun k => by rw [impl_lockCount.f]) ?_
    rw [w64 (x := (x.f1.length : Int) + (x.f2.length : Int)) (by omega) (by omega)]
    refine EvS.ite (fun c => jt (fun g => by have := g.2; omega)) (fun c1 => EvS.ite (fun c => jt (fun g => by have := g.1.1.2.1; omega)) (fun c2 => EvS.ite (fun c => jt (fun g => by have := g.1.1.1.1; omega)) (fun c3 => EvS.ite (fun c => jt (fun g => by have := g.1.1.1.2; omega)) (fun c4 => EvS.bindv (differentBelow_ok x.f1 (by omega) 8 (by omega) (by omega)) ?_))))
    by_cases c5 : Diff x.f1 8
    · rw [decide_eq_true c5]
      refine EvS.step (fun k => by rw [impl_lockCount.j0]) ?_
      exact EvS.neg (by simp) (count_l0 d x left h12 (by omega) hx ⟨⟨by omega, by omega⟩, by omega, c5⟩ ih x.f2 0 1 (At.zero _) (by omega) (by omega) rfl (fun q => q))
    · rw [decide_eq_false c5]
      exact jt (fun g => c5 g.1.1.2.2)
/-! ### the reference's count -/
theorem size_l0 (d : Nat) (x : S38) (hx : OkD (d + 1) x)
    (ih : ∀ y, OkD d y → EvS (fun k => spec_lockSize.f k y.f0 y.f1 y.f2) (fun r => (Cnt d y 12 ∧ r = cD d y) ∨ (¬ Cnt d y 12 ∧ r = -1))) (ys : List S38) :
    ∀ (i c : Int), At x.f2 i ys → 1 ≤ c → c ≤ 1 + 12 * i → c + sumC (cD d) ys = cD (d + 1) x → ((∀ y ∈ ys, VD d y) → ∀ y ∈ x.f2, VD d y) →
    EvS (fun k => spec_lockSize.l0 k c i x.f0 x.f1 x.f2) (fun r => (Cnt (d + 1) x 12 ∧ r = cD (d + 1) x) ∨ (¬ Cnt (d + 1) x 12 ∧ r = -1)) := by
  have hl1 := hx.1
  have hl2 := hx.2.1
  induction ys with
  | nil =>
    intro i c h c1 c2 hs hv
    simp only [sumC, Int.add_zero] at hs
    have no : ¬ Cnt (d + 1) x 12 → EvS (fun _ => some (-1)) (fun r => (Cnt (d + 1) x 12 ∧ r = cD (d + 1) x) ∨ (¬ Cnt (d + 1) x 12 ∧ r = -1)) := fun g => EvS.now (.inr ⟨g, rfl⟩)
    refine EvS.step (fun k => by rw [spec_lockSize.l0]) ?_
    rw [w64 (x := (x.f1.length : Int) + (x.f2.length : Int)) (by omega) (by omega)]
    refine EvS.neg (by have := h.ge; omega) (EvS.ite (fun c3 => no (fun g => by have := g.2; omega)) (fun c3 => EvS.bindv (validMembers_ok x.f1 (by omega) 8 (by omega) (by omega)) (EvS.ite (fun c4 => EvS.call (inRange_eq _ _ _) (EvS.ite (fun c5 => EvS.ite (fun c6 => no (fun g => by have := g.1.1.2.1; omega)) (fun c6 => EvS.now (.inl ⟨⟨⟨⟨?_, by omega, of_decide_eq_true c4⟩, hv (fun y hy => by simp at hy)⟩, by omega⟩, hs⟩))) (fun c5 => no (fun g => ndec c5 ?_)))) (fun c4 => no (fun g => ndec c4 g.1.1.2.2)))))
    · have := of_decide_eq_true c5; omega
    · have := g.1.1.1; omega
  | cons y ys ih2 =>
    intro i c h c1 c2 hs hv
    have hi := h.lt
    have hy := hx.2.2 y h.mem
    have hcy := cD_pos d y
    have hp := sumC_nonneg (cD_pos d) ys
    simp only [sumC] at hs
    refine EvS.step (fun k => by rw [spec_lockSize.l0]) ?_
    refine EvS.pos h.lt (EvS.pos h.nonneg ?_)
    rw [at_rdL h, w64 (x := i + 1) (by have := h.nonneg; omega) (by omega)]
    refine EvS.bind (ih y hy) (fun t ht => ?_)
    rcases ht with ⟨⟨g1, g2⟩, rfl⟩ | ⟨g1, rfl⟩
    · rw [w64 (x := c + cD d y) (by omega) (by omega)]
      refine EvS.neg (by omega) (ih2 _ _ h.next (by omega) (by omega) (by omega) (fun q => hv (fun z hz => ?_)))
      rcases List.mem_cons.1 hz with rfl | hz
      · exact g1
      · exact q z hz
    · refine EvS.pos (by omega) (EvS.now (.inr ⟨fun q => g1 ⟨q.1.2 y h.mem, ?_⟩, rfl⟩))
      have := q.2
      omega
theorem spec_lockSize_ok (d : Nat) : ∀ x : S38, OkD d x → EvS (fun k => spec_lockSize.f k x.f0 x.f1 x.f2) (fun r => (Cnt d x 12 ∧ r = cD d x) ∨ (¬ Cnt d x 12 ∧ r = -1)) := by
  induction d with
  | zero => intro x hx; exact absurd hx (by simp [OkD])
  | succ d ih =>
    intro x hx
    refine EvS.step (fun k => by rw [spec_lockSize.f]) ?_
    exact size_l0 d x hx ih x.f2 0 1 (At.zero _) (by omega) (by omega) rfl (fun q => q)
/-! ### who opens -/
theorem impl_opens_l1 (d : Nat) (s : Int) (x : S38) (hl : x.f2.length ≤ 8) (ih : ∀ y ∈ x.f2, EvS (fun k => impl_opensWith.f k y.f0 y.f1 y.f2 s) (· = opD d s y)) (ys : List S38) : ∀ (i c : Int), At x.f2 i ys → 0 ≤ c → c ≤ 100 + i →
    EvS (fun k => impl_opensWith.l1 k s c x.f2 x.f2.length i x.f0 x.f1 x.f2) (· = decide (c + (ys.countP (opD d s) : Int) ≥ x.f0)) := by
  induction ys with
  | nil =>
    intro i c h c0 c1
    refine EvS.step (fun k => by rw [impl_opensWith.l1]) ?_
    exact EvS.neg (by have := h.ge; omega) (EvS.now (by simp))
  | cons y ys ih2 =>
    intro i c h c0 c1
    have hi := h.lt
    have hi0 := h.nonneg
    refine EvS.step (fun k => by rw [impl_opensWith.l1]) ?_
    refine EvS.pos h.lt (EvS.pos h.nonneg (EvS.pos h.lt ?_))
    rw [at_rdL h, w64 (x := i + 1) (by omega) (by omega), w64 (x := c + 1) (by omega) (by omega)]
    refine EvS.bindv (ih y h.mem) (EvS.ite (fun q => EvS.mono (ih2 _ _ h.next (by omega) (by omega)) (fun r hr => ?_)) (fun q => EvS.mono (ih2 _ _ h.next (by omega) (by omega)) (fun r hr => ?_)))
    · rw [hr, List.countP_cons, if_pos q]; exact decide_eq_decide.2 (by push_cast; omega)
    · rw [hr, List.countP_cons, if_neg q]; rfl
theorem impl_opens_l0 (d : Nat) (s : Int) (s0 : 0 ≤ s) (s1 : s < 256) (x : S38) (hl : (x.f1.length : Int) + x.f2.length ≤ 8) (hm : ∀ m ∈ x.f1, 0 ≤ m ∧ m < 8) (ih : ∀ y ∈ x.f2, EvS (fun k => impl_opensWith.f k y.f0 y.f1 y.f2 s) (· = opD d s y)) (ys : List Int) : ∀ (i c : Int), At x.f1 i ys → 0 ≤ c → c ≤ i →
    EvS (fun k => impl_opensWith.l0 k s c x.f1 x.f1.length i x.f0 x.f1 x.f2) (· = decide (c + (ys.countP (fun m => hasB s m.toNat) : Int) + (x.f2.countP (opD d s) : Int) ≥ x.f0)) := by
  induction ys with
  | nil =>
    intro i c h c0 c1
    have := h.ge
    refine EvS.step (fun k => by rw [impl_opensWith.l0]) ?_
    refine EvS.neg (by omega) (EvS.mono (impl_opens_l1 d s x (by omega) ih x.f2 0 c (At.zero _) c0 (by omega)) (fun r hr => ?_))
    rw [hr]; simp
  | cons y ys ih2 =>
    intro i c h c0 c1
    have hi := h.lt
    have hi0 := h.nonneg
    have hy := hm y h.mem
    obtain ⟨n, rfl⟩ := Int.eq_ofNat_of_zero_le s0
    obtain ⟨m, rfl⟩ := Int.eq_ofNat_of_zero_le hy.1
    refine EvS.step (fun k => by rw [impl_opensWith.l0]) ?_
    refine EvS.pos h.lt (EvS.pos h.nonneg (EvS.pos h.lt ?_))
    rw [At.rd h, and_bit n (by omega) m (by omega), w64 (x := i + 1) (by omega) (by omega)]
    refine EvS.pos (by omega) ?_
    by_cases q : hasB (n : Int) m = true
    · rw [if_pos q, w64 (x := c + 1) (by omega) (by omega)]
      refine EvS.mono (ih2 _ _ h.next (by omega) (by omega)) (fun r hr => ?_)
      rw [hr, List.countP_cons, if_pos (by simpa using q)]; exact decide_eq_decide.2 (by push_cast; omega)
    · rw [if_neg q, w64 (x := c + 0) (by omega) (by omega)]
      refine EvS.mono (ih2 _ _ h.next (by omega) (by omega)) (fun r hr => ?_)
      rw [hr, List.countP_cons, if_neg (by simpa using q)]; exact decide_eq_decide.2 (by omega)
theorem impl_opensWith_ok (d : Nat) (s : Int) (s0 : 0 ≤ s) (s1 : s < 256) : ∀ x : S38, VD d x → EvS (fun k => impl_opensWith.f k x.f0 x.f1 x.f2 s) (· = opD d s x) := by
  induction d with
  | zero => intro x hx; exact absurd hx (by simp [VD])
  | succ d ih =>
    intro x hx
    refine EvS.step (fun k => by rw [impl_opensWith.f]) ?_
    refine EvS.mono (impl_opens_l0 d s s0 s1 x hx.1.2.1 hx.1.2.2.2 (fun y hy => ih y (hx.2 y hy)) x.f1 0 0 (At.zero _) (by omega) (by omega)) (fun r hr => ?_)
    rw [hr, opD]; exact decide_eq_decide.2 (by omega)
theorem spec_opens_l1 (d : Nat) (s : Int) (x : S38) (hl : x.f2.length ≤ 8) (ih : ∀ y ∈ x.f2, EvS (fun k => spec_opens.f k y.f0 y.f1 y.f2 s) (· = opD d s y)) (ys : List S38) : ∀ (i c : Int), At x.f2 i ys → 0 ≤ c → c ≤ 100 + i →
    EvS (fun k => spec_opens.l1 k s c i x.f0 x.f1 x.f2) (· = decide (c + (ys.countP (opD d s) : Int) ≥ x.f0)) := by
  induction ys with
  | nil =>
    intro i c h c0 c1
    refine EvS.step (fun k => by rw [spec_opens.l1]) ?_
    exact EvS.neg (by have := h.ge; omega) (EvS.now (by simp))
  | cons y ys ih2 =>
    intro i c h c0 c1
    have hi := h.lt
    have hi0 := h.nonneg
    refine EvS.step (fun k => by rw [spec_opens.l1]) ?_
    refine EvS.pos h.lt (EvS.pos h.nonneg ?_)
    rw [at_rdL h, w64 (x := i + 1) (by omega) (by omega), w64 (x := c + 1) (by omega) (by omega)]
    refine EvS.bindv (ih y h.mem) (EvS.ite (fun q => EvS.mono (ih2 _ _ h.next (by omega) (by omega)) (fun r hr => ?_)) (fun q => EvS.mono (ih2 _ _ h.next (by omega) (by omega)) (fun r hr => ?_)))
    · rw [hr, List.countP_cons, if_pos q]; exact decide_eq_decide.2 (by push_cast; omega)
    · rw [hr, List.countP_cons, if_neg q]; rfl
theorem spec_opens_l0 (d : Nat) (s : Int) (s0 : 0 ≤ s) (s1 : s < 256) (x : S38) (hl : (x.f1.length : Int) + x.f2.length ≤ 8) (hm : ∀ m ∈ x.f1, 0 ≤ m ∧ m < 8) (ih : ∀ y ∈ x.f2, EvS (fun k => spec_opens.f k y.f0 y.f1 y.f2 s) (· = opD d s y)) (ys : List Int) : ∀ (i c : Int), At x.f1 i ys → 0 ≤ c → c ≤ i →
    EvS (fun k => spec_opens.l0 k s c i x.f0 x.f1 x.f2) (· = decide (c + (ys.countP (fun m => hasB s m.toNat) : Int) + (x.f2.countP (opD d s) : Int) ≥ x.f0)) := by
  induction ys with
  | nil =>
    intro i c h c0 c1
    have := h.ge
    refine EvS.step (fun k => by rw [spec_opens.l0]) ?_
    refine EvS.neg (by omega) (EvS.mono (spec_opens_l1 d s x (by omega) ih x.f2 0 c (At.zero _) c0 (by omega)) (fun r hr => ?_))
    rw [hr]; simp
  | cons y ys ih2 =>
    intro i c h c0 c1
    have hi := h.lt
    have hi0 := h.nonneg
    have hy := hm y h.mem
    refine EvS.step (fun k => by rw [spec_opens.l0]) ?_
    refine EvS.pos h.lt (EvS.pos h.nonneg ?_)
    rw [At.rd h, w64 (x := i + 1) (by omega) (by omega), w64 (x := c + 1) (by omega) (by omega)]
    refine EvS.bindv (spec_has_ok s y s0 (by omega) hy.1 (by omega)) (EvS.ite (fun q => EvS.mono (ih2 _ _ h.next (by omega) (by omega)) (fun r hr => ?_)) (fun q => EvS.mono (ih2 _ _ h.next (by omega) (by omega)) (fun r hr => ?_)))
    · rw [hr, List.countP_cons, if_pos q]; exact decide_eq_decide.2 (by push_cast; omega)
    · rw [hr, List.countP_cons, if_neg q]; rfl
theorem spec_opens_ok (d : Nat) (s : Int) (s0 : 0 ≤ s) (s1 : s < 256) : ∀ x : S38, VD d x → EvS (fun k => spec_opens.f k x.f0 x.f1 x.f2 s) (· = opD d s x) := by
  induction d with
  | zero => intro x hx; exact absurd hx (by simp [VD])
  | succ d ih =>
    intro x hx
    refine EvS.step (fun k => by rw [spec_opens.f]) ?_
    refine EvS.mono (spec_opens_l0 d s s0 s1 x hx.1.2.1 hx.1.2.2.2 (fun y hy => ih y (hx.2 y hy)) x.f1 0 0 (At.zero _) (by omega) (by omega)) (fun r hr => ?_)
    rw [hr, opD]; exact decide_eq_decide.2 (by omega)
/-- Who opens, opens with more. -/
theorem opD_mono (d : Nat) (s t : Int) (hst : ∀ m : Int, 0 ≤ m → hasB s m.toNat = true → hasB t m.toNat = true) : ∀ x : S38, VD d x → opD d s x = true → opD d t x = true := by
  induction d with
  | zero => intro x hx; exact absurd hx (by simp [VD])
  | succ d ih =>
    intro x hx h
    have h := of_decide_eq_true h
    have h1 : x.f1.countP (fun m => hasB s m.toNat) ≤ x.f1.countP (fun m => hasB t m.toNat) := List.countP_mono_left (fun m hm q => hst m (hx.1.2.2.2 m hm).1 q)
    have h2 : x.f2.countP (opD d s) ≤ x.f2.countP (opD d t) := List.countP_mono_left (fun y hy q => ih y (hx.2 y hy) q)
    exact decide_eq_true (by omega)
theorem opD_none (d : Nat) : ∀ x : S38, VD d x → opD d 0 x = false := by
  induction d with
  | zero => intro x hx; exact absurd hx (by simp [VD])
  | succ d ih =>
    intro x hx
    have h1 : x.f1.countP (fun m => hasB 0 m.toNat) = 0 := List.countP_eq_zero.2 (fun m _ => by rw [hasB_zero]; simp)
    have h2 : x.f2.countP (opD d 0) = 0 := List.countP_eq_zero.2 (fun y hy => by rw [ih y (hx.2 y hy)]; simp)
    refine decide_eq_false ?_
    rw [h1, h2]
    have := hx.1.1.1
    omega
/-- A lock as a reading tells of it: not deeper than d. -/
def GD48 : Nat → S48 → Prop
  | 0, _ => False
  | d + 1, x => (Lit.int .i64 x.f0).wf = true ∧ (x.f1.length ≤ 9223372036854775807 ∧ ∀ y ∈ x.f1, (Lit.int .i64 y).wf = true) ∧ x.f2.length ≤ 9223372036854775807 ∧ ∀ y ∈ x.f2, GD48 d y
theorem GD48_mono (d : Nat) : ∀ (e : Nat) (x : S48), d ≤ e → GD48 d x → GD48 e x := by
  induction d with
  | zero => intro e x _ h; exact absurd h (by simp [GD48])
  | succ d ih =>
    intro e x he h
    cases e with
    | zero => omega
    | succ e => exact ⟨h.1, h.2.1, h.2.2.1, fun y hy => ih e y (by omega) (h.2.2.2 y hy)⟩
def G48 (x : S48) : Prop := ∃ d, GD48 d x
theorem GD48_all (l : List S48) (h : ∀ y ∈ l, G48 y) : ∃ d, ∀ y ∈ l, GD48 d y := by
  induction l with
  | nil => exact ⟨0, fun y hy => by simp at hy⟩
  | cons a l ih =>
    obtain ⟨d, hd⟩ := ih (fun y hy => h y (List.mem_cons_of_mem _ hy))
    obtain ⟨e, he⟩ := h a List.mem_cons_self
    refine ⟨d + e, fun y hy => ?_⟩
    rcases List.mem_cons.1 hy with rfl | hy
    · exact GD48_mono e _ _ (by omega) he
    · exact GD48_mono d _ _ (by omega) (hd y hy)
/-! ## All locks. -/
def OP (d : Nat) (x : S38) (ms : List Int) : Prop := Cnt d x 12 ∧ Diff ms 8 ∧ opD d (setS ms) x = true
theorem diff_8 {ms : List Int} (h : Diff ms 8) : ms.length ≤ 1000 := by
  rcases diff_len h with g | g
  · omega
  · subst g; simp
theorem set_256 {ms : List Int} (hd : Diff ms 8) : setS ms < 256 := by
  obtain ⟨k, r, hr⟩ := impl_setOf_ok ms (diff_8 hd) hd
  omega
theorem impl_Opens_ok (d : Nat) (x : S38) (hx : OkD d x) (ms : List Int) (hl : ms.length ≤ 4000000) : EvS (fun k => impl_Opens.f k x.f0 x.f1 x.f2 ms) (fun r => r = true ↔ OP d x ms) := by
  simp only [impl_Opens.f, impl_ValidLock.f]
  have hv : EvS (fun k => (impl_lockCount.f k x.f0 x.f1 x.f2 12).bind fun t => some (decide (t ≤ 12))) (fun r => r = true ↔ Cnt d x 12) := by
    refine EvS.bind (impl_lockCount_ok d x 12 (by omega) hx) (fun t ht => EvS.now ?_)
    rcases ht with ⟨g, e⟩ | ⟨g, e, _⟩
    · exact ⟨fun _ => g, fun _ => decide_eq_true (by rw [e]; exact g.2)⟩
    · exact ⟨fun q => absurd (of_decide_eq_true q) (by omega), fun q => absurd q g⟩
  refine EvS.bind hv (fun t ht => EvS.ite (fun c1 => EvS.bindv (differentBelow_ok ms (by omega) 8 (by omega) (by omega)) (EvS.ite (fun c2 => ?_) (fun c2 => EvS.now ⟨fun q => by simp at q, fun q => absurd q.2.1 (ndec c2)⟩))) (fun c1 => EvS.now ⟨fun q => by simp at q, fun q => absurd (ht.2 q.1) c1⟩))
  have c1 := ht.1 c1
  have c2 := of_decide_eq_true c2
  refine EvS.bind (impl_setOf_ok ms (diff_8 c2) c2) (fun s hs => ?_)
  obtain ⟨rfl, hs⟩ := hs
  refine EvS.bindv (impl_opensWith_ok d _ (setS_nonneg ms) hs x c1.1) (EvS.now ⟨fun q => ⟨c1, c2, q⟩, fun q => q.2.2⟩)
theorem spec_Opens_ok (d : Nat) (x : S38) (hx : OkD d x) (ms : List Int) (hl : ms.length ≤ 4000000) : EvS (fun k => spec_Opens.f k x.f0 x.f1 x.f2 ms) (fun r => r = true ↔ OP d x ms) := by
  simp only [spec_Opens.f]
  refine EvS.bind (spec_lockSize_ok d x hx) (fun t ht => EvS.ite (fun c1 => EvS.bindv (validMembers_ok ms (by omega) 8 (by omega) (by omega)) (EvS.ite (fun c2 => ?_) (fun c2 => EvS.now ⟨fun q => by simp at q, fun q => absurd q.2.1 (ndec c2)⟩))) (fun c1 => EvS.now ⟨fun q => by simp at q, fun q => ?_⟩))
  · have c2 := of_decide_eq_true c2
    rcases ht with ⟨g, _⟩ | ⟨_, e⟩
    · refine EvS.bindv (spec_setOf_ok ms (diff_8 c2) (fun m hm => by have := c2.2 m hm; omega)) (EvS.bindv (spec_opens_ok d _ (setS_nonneg ms) (set_256 c2) x g.1) (EvS.now ⟨fun q => ⟨g, c2, q⟩, fun q => q.2.2⟩))
    · exfalso; omega
  · rcases ht with ⟨g, e⟩ | ⟨g, _⟩
    · have := cD_pos d x; exfalso; omega
    · exact absurd q.1 g
/-! ### how much a lock holds -/
theorem at_rdLL {xs ys : List S48} {i : Int} {y : S48} (h : At xs i (y :: ys)) : rd_T48 xs i = y := h.getD _
def sumL (f : S48 → Int) : List S48 → Int
  | [] => 0
  | y :: ys => f y + sumL f ys
theorem sumL_nonneg {f : S48 → Int} (hf : ∀ x, 0 ≤ f x) (ys : List S48) : 0 ≤ sumL f ys ∧ ∀ y ∈ ys, f y ≤ sumL f ys := by
  induction ys with
  | nil => exact ⟨Int.le_refl _, fun y hy => by simp at hy⟩
  | cons y ys ih =>
    have := hf y
    simp only [sumL]
    refine ⟨by omega, fun z hz => ?_⟩
    rcases List.mem_cons.1 hz with rfl | hz
    · omega
    · have := ih.2 z hz; omega
def wtD : Nat → S48 → Int
  | 0, _ => 0
  | d + 1, x => x.f1.length + (x.f2.length + sumL (wtD d) x.f2)
theorem wtD_nonneg (d : Nat) : ∀ x, 0 ≤ wtD d x := by
  induction d with
  | zero => intro x; exact Int.le_refl _
  | succ d ih => intro x; have := (sumL_nonneg ih x.f2).1; simp only [wtD]; omega
theorem szIntS_eq (xs : List Int) (c : Int) (h0 : 0 ≤ c) (h1 : c ≤ 1048576) (hx : xs.length ≤ 9223372036854775807) : laws_szIntS.f xs c = some (if c - xs.length < 0 then -1 else c - xs.length) := by
  unfold laws_szIntS.f
  rw [w64 (x := c - (xs.length : Int)) (by omega) (by omega)]
  split <;> rfl
theorem szLockS_l0 (d : Nat) (ih : ∀ x left, GD48 d x → 0 ≤ left → left ≤ 1048576 → EvS (fun k => laws_szLock.f k x.f0 x.f1 x.f2 left) (fun r => (wtD d x ≤ left ∧ r = left - wtD d x) ∨ (left < wtD d x ∧ r < 0))) (xs : List S48) (hl : xs.length ≤ 1048576) (ys : List S48) : ∀ i left : Int, At xs i ys → (∀ y ∈ ys, GD48 d y) → 0 ≤ left → left ≤ 1048576 →
    EvS (fun k => laws_szLockS.l0 k xs left i) (fun r => (sumL (wtD d) ys ≤ left ∧ r = left - sumL (wtD d) ys) ∨ (left < sumL (wtD d) ys ∧ r < 0)) := by
  induction ys with
  | nil =>
    intro i left h hg h0 h1
    have := h.ge
    refine EvS.step (fun k => by rw [laws_szLockS.l0_s]) ?_
    exact EvS.neg (by omega) (EvS.now (.inl ⟨by simpa [sumL] using h0, by simp [sumL]⟩))
  | cons y ys ih2 =>
    intro i left h hg h0 h1
    have g1 := h.lt
    have g2 := h.nonneg
    have hw := wtD_nonneg d y
    have hs := (sumL_nonneg (wtD_nonneg d) ys).1
    refine EvS.step (fun k => by rw [laws_szLockS.l0_s]) ?_
    rw [at_rdLL h, w64 (x := i + 1) (by omega) (by omega)]
    refine EvS.pos g1 (EvS.pos g2 (EvS.bind (ih y left (hg y List.mem_cons_self) h0 h1) (fun t ht => ?_)))
    simp only [sumL]
    rcases ht with ⟨ht, rfl⟩ | ⟨ht, ht2⟩
    · refine EvS.neg (by omega) (EvS.mono (ih2 _ _ h.next (fun z hz => hg z (List.mem_cons_of_mem _ hz)) (by omega) (by omega)) (fun r hr => ?_))
      omega
    · exact EvS.pos ht2 (EvS.now (.inr ⟨by omega, by omega⟩))
theorem szLock_ok (d : Nat) : ∀ x left, GD48 d x → 0 ≤ left → left ≤ 1048576 → EvS (fun k => laws_szLock.f k x.f0 x.f1 x.f2 left) (fun r => (wtD d x ≤ left ∧ r = left - wtD d x) ∨ (left < wtD d x ∧ r < 0)) := by
  induction d with
  | zero => intro x left hx; exact absurd hx (by simp [GD48])
  | succ d ih =>
    intro x left hx h0 h1
    have hs := (sumL_nonneg (wtD_nonneg d) x.f2).1
    have b1 := hx.2.1.1
    have b2 := hx.2.2.1
    simp only [laws_szLock.f, laws_szLock.F]
    refine EvS.call (szIntS_eq x.f1 left (by omega) (by omega) b1) ?_
    simp only [wtD]
    by_cases c : left - x.f1.length < 0
    · rw [if_pos c]; exact EvS.pos (by omega) (EvS.now (.inr ⟨by omega, by omega⟩))
    · rw [if_neg c]
      refine EvS.neg c ?_
      simp only [laws_szLockS.f, laws_szLockS.F]
      rw [w64 (x := left - (x.f1.length : Int) - (x.f2.length : Int)) (by omega) (by omega)]
      refine EvS.bind (Q := fun r => (x.f2.length + sumL (wtD d) x.f2 ≤ left - x.f1.length ∧ r = left - x.f1.length - (x.f2.length + sumL (wtD d) x.f2)) ∨ (left - x.f1.length < x.f2.length + sumL (wtD d) x.f2 ∧ r < 0)) ?_ (fun t ht => ?_)
      · refine EvS.ite (fun c2 => EvS.now (.inr ⟨by omega, by omega⟩)) (fun c2 => ?_)
        refine EvS.mono (szLockS_l0 d ih x.f2 (by omega) x.f2 0 _ (At.zero _) hx.2.2.2 (by omega) (by omega)) (fun r hr => ?_)
        omega
      · rcases ht with ⟨ht, rfl⟩ | ⟨ht, ht2⟩
        · exact EvS.neg (by omega) (EvS.now (.inl ⟨by omega, by omega⟩))
        · exact EvS.pos ht2 (EvS.now (.inr ⟨by omega, by omega⟩))
/-- Not deeper than d, no list long. -/
def SmD : Nat → S48 → Prop
  | 0, _ => False
  | d + 1, x => x.f1.length ≤ 1048576 ∧ x.f2.length ≤ 1048576 ∧ ∀ y ∈ x.f2, SmD d y
theorem smD_of (d : Nat) : ∀ x, GD48 d x → wtD d x ≤ 1048576 → SmD d x := by
  induction d with
  | zero => intro x hx; exact absurd hx (by simp [GD48])
  | succ d ih =>
    intro x hx hw
    simp only [wtD] at hw
    have hs := sumL_nonneg (wtD_nonneg d) x.f2
    exact ⟨by omega, by omega, fun y hy => ih y (hx.2.2.2 y hy) (by have := hs.2 y hy; omega)⟩
/-! ### a lock of the program -/
def cvD : Nat → S48 → S38
  | 0, x => ⟨x.f0, [], []⟩
  | d + 1, x => ⟨x.f0, x.f1, x.f2.map (cvD d)⟩
theorem okD_of (d : Nat) : ∀ x, SmD d x → OkD d (cvD d x) := by
  induction d with
  | zero => intro x hx; exact absurd hx (by simp [SmD])
  | succ d ih =>
    intro x hx
    refine ⟨hx.1, by simp only [cvD, List.length_map]; exact hx.2.1, fun y hy => ?_⟩
    obtain ⟨z, hz, rfl⟩ := List.mem_map.1 hy
    exact ih z (hx.2.2 z hz)
theorem rdLock_set (xs : List S38) (i j : Int) (v : S38) (h0 : 0 ≤ i) (h1 : i < xs.length) (h2 : 0 ≤ j) : rd_T38 (xs.set i.toNat v) j = if i = j then v else rd_T38 xs j := by
  unfold rd_T38
  rw [List.getD_eq_getElem?_getD, List.getElem?_set]
  by_cases c : i = j
  · subst c; rw [if_pos rfl, if_pos (by omega), if_pos rfl]; rfl
  · rw [if_neg (by omega), if_neg c, List.getD_eq_getElem?_getD]
theorem listLock_ext {xs ys : List S38} (hl : xs.length = ys.length) (h : ∀ i : Int, 0 ≤ i → i < xs.length → rd_T38 xs i = rd_T38 ys i) : xs = ys := by
  apply List.ext_getElem hl
  intro n h1 h2
  have := h n (by omega) (by omega)
  unfold rd_T38 at this
  simp only [Int.toNat_natCast] at this
  rw [List.getD_eq_getElem?_getD, List.getD_eq_getElem?_getD, List.getElem?_eq_getElem h1, List.getElem?_eq_getElem h2] at this
  exact this
theorem rdLock_map (f : S48 → S38) (xs : List S48) (i : Int) (h0 : 0 ≤ i) (h1 : i < xs.length) : rd_T38 (xs.map f) i = f (rd_T48 xs i) := by
  unfold rd_T38 rd_T48
  rw [List.getD_eq_getElem?_getD, List.getD_eq_getElem?_getD, List.getElem?_map, List.getElem?_eq_getElem (show i.toNat < xs.length by omega)]
  rfl
theorem lock_eta (x : S38) : (⟨x.f0, x.f1, x.f2⟩ : S38) = x := by cases x; rfl
theorem toLockS_l0 (d : Nat) (ih : ∀ x, SmD d x → EvS (fun k => laws_toLock.f k x.f0 x.f1 x.f2) (· = ((cvD d x).f0, (cvD d x).f1, (cvD d x).f2))) (xs : List S48) (hx : ∀ x ∈ xs, SmD d x) (hl : xs.length ≤ 4000000) (ys : List S48) : ∀ (i : Int) (s : List S38), At xs i ys → s.length = xs.length → (∀ j : Int, 0 ≤ j → j < i → rd_T38 s j = cvD d (rd_T48 xs j)) → EvS (fun k => laws_toLockS.l0 k xs s i) (· = xs.map (cvD d)) := by
  induction ys with
  | nil =>
    intro i s h h1 h2
    have := h.ge
    refine EvS.step (fun k => by rw [laws_toLockS.l0_s]) ?_
    exact EvS.neg (by omega) (EvS.now (listLock_ext (by rw [List.length_map, h1]) (fun j j0 j1 => by rw [h2 j j0 (by omega), rdLock_map _ xs j j0 (by omega)])))
  | cons y ys ih2 =>
    intro i s h h1 h2
    have g1 := h.lt
    have g2 := h.nonneg
    refine EvS.step (fun k => by rw [laws_toLockS.l0_s]) ?_
    rw [at_rdLL h, w64 (x := i + 1) (by omega) (by omega)]
    refine EvS.pos h.lt (EvS.pos h.nonneg (EvS.bindv (ih y (hx y h.mem)) (EvS.pos (by omega) ?_)))
    refine ih2 _ _ h.next (by simpa using h1) (fun j j0 j1 => ?_)
    rw [rdLock_set _ _ _ _ g2 (by omega) j0]
    by_cases e : i = j
    · subst e; rw [if_pos rfl, at_rdLL h]; exact lock_eta _
    · rw [if_neg e]; exact h2 j j0 (by omega)
theorem toLock_ok (d : Nat) : ∀ x, SmD d x → EvS (fun k => laws_toLock.f k x.f0 x.f1 x.f2) (· = ((cvD d x).f0, (cvD d x).f1, (cvD d x).f2)) := by
  induction d with
  | zero => intro x hx; exact absurd hx (by simp [SmD])
  | succ d ih =>
    intro x hx
    have hx1 := hx.1
    have hx2 := hx.2.1
    simp only [laws_toLock.f, laws_toLock.F]
    refine EvS.bindv (toIntS_ok x.f1 (by omega)) (EvS.bindv (a := x.f2.map (cvD d)) ?_ (EvS.now rfl))
    simp only [laws_toLockS.f, laws_toLockS.F]
    exact EvS.pos (by omega) (EvS.pos (by omega) (toLockS_l0 d ih x.f2 hx.2.2 (by omega) x.f2 0 _ (At.zero _) (by simp) (fun j j0 j1 => by omega)))
theorem eqLockS_l0 (d : Nat) (ih : ∀ x, OkD d x → EvS (fun k => laws_eqLock.f k x.f0 x.f1 x.f2 x.f0 x.f1 x.f2) (· = true)) (xs : List S38) (hx : ∀ x ∈ xs, OkD d x) (hl : xs.length ≤ 4000000) (ys : List S38) : ∀ i : Int, At xs i ys → EvS (fun k => laws_eqLockS.l0 k xs xs i) (· = true) := by
  induction ys with
  | nil =>
    intro i h
    refine EvS.step (fun k => by rw [laws_eqLockS.l0_s]) ?_
    exact EvS.neg (by have := h.ge; omega) (EvS.now rfl)
  | cons y ys ih2 =>
    intro i h
    refine EvS.step (fun k => by rw [laws_eqLockS.l0_s]) ?_
    rw [at_rdL h]
    exact EvS.pos h.lt (EvS.pos h.nonneg (EvS.pos h.lt (EvS.bindv (ih y (hx y h.mem)) (EvS.pos rfl (ih2 _ (h.wnext (by omega)))))))
theorem eqLock_ok (d : Nat) : ∀ x, OkD d x → EvS (fun k => laws_eqLock.f k x.f0 x.f1 x.f2 x.f0 x.f1 x.f2) (· = true) := by
  induction d with
  | zero => intro x hx; exact absurd hx (by simp [OkD])
  | succ d ih =>
    intro x hx
    have hx1 := hx.1
    have hx2 := hx.2.1
    simp only [laws_eqLock.f, laws_eqLock.F]
    refine EvS.pos trivial (EvS.bindv (eqIntS_ok x.f1 (by omega)) (EvS.pos rfl (EvS.bindv (a := true) ?_ (EvS.pos rfl (EvS.now rfl)))))
    simp only [laws_eqLockS.f, laws_eqLockS.F]
    exact EvS.pos (by trivial) (eqLockS_l0 d ih x.f2 hx.2.2 (by omega) x.f2 0 (At.zero _))
theorem FnExactOpens (a0_0 : Int) (g0_0 : (Lit.int .i64 a0_0).wf = true) (l0_1 : List Int) (g0_1 : l0_1.length ≤ 9223372036854775807 ∧ ∀ y0 ∈ l0_1, (Lit.int .i64 y0).wf = true) (l0_2 : List S48) (g0_2 : l0_2.length ≤ 9223372036854775807 ∧ ∀ y0 ∈ l0_2, G48 y0) (l1 : List Int) (g1 : l1.length ≤ 9223372036854775807 ∧ ∀ y0 ∈ l1, (Lit.int .i64 y0).wf = true) : ∃ k, laws_FnExactOpens.f k a0_0 l0_1 l0_2 l1 = some true := by
  refine EvS.holds ?_
  obtain ⟨d, hd⟩ := GD48_all l0_2 g0_2.2
  have hx : GD48 (d + 1) (⟨a0_0, l0_1, l0_2⟩ : S48) := ⟨g0_0, g0_1, g0_2.1, hd⟩
  have sz := szLock_ok (d + 1) _ 1048576 hx (by omega) (by omega)
  have sm := smD_of (d + 1) _ hx
  have tl0 := toLock_ok (d + 1) (⟨a0_0, l0_1, l0_2⟩ : S48)
  have hok0 := okD_of (d + 1) (⟨a0_0, l0_1, l0_2⟩ : S48)
  generalize wtD (d + 1) (⟨a0_0, l0_1, l0_2⟩ : S48) = wt at sz sm
  generalize cvD (d + 1) (⟨a0_0, l0_1, l0_2⟩ : S48) = c at tl0 hok0
  dsimp only at sz tl0
  clear hx hd
  simp only [laws_FnExactOpens.f]
  refine EvS.ite (fun _ => EvS.now rfl) (fun c1 => ?_)
  refine EvS.bind sz (fun t ht => EvS.ite (fun _ => EvS.now rfl) (fun c2 => ?_))
  have hsm := sm (by omega)
  have hok := hok0 hsm
  have tl := tl0 hsm
  have el := eqLock_ok (d + 1) _ hok
  have si := spec_Opens_ok (d + 1) _ hok l1 (by omega)
  have ii := impl_Opens_ok (d + 1) _ hok l1 (by omega)
  have ti := toIntS_ok l1 (by omega)
  have ei := eqIntS_ok l1 (by omega)
  refine EvS.bindv tl ?_
  refine EvS.bindv ti (EvS.bind si (fun a ha => ?_))
  refine EvS.bindv tl (EvS.bindv ti (EvS.bind ii (fun b hb => ?_)))
  have e : b = a := by rw [Bool.eq_iff_iff, ha, hb]
  subst e
  refine EvS.neg (by simp) (EvS.bindv tl (EvS.bindv el (EvS.pos rfl ?_)))
  exact EvS.bindv ti (EvS.bindv ei (EvS.pos rfl (EvS.now rfl)))
end Go.Proofs.Ytnilffafnghngaa.Pure
