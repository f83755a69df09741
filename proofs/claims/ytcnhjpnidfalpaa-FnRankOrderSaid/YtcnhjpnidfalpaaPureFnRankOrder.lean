/- OrderAt RankOrder is the order, and the order with each number taken from the last one has the last number less it; and RankOrder is what the reference tells: for every code. Conditions: none. -/
import Derived.Test.YtcnhjpnidfalpaaMFnRankOrderx0
import Derived.Test.YtcnhjpnidfalpaaMFnRankOrderx1
import Derived.Test.YtcnhjpnidfalpaaMFnRankOrderx2
import Derived.Test.YtcnhjpnidfalpaaMFnRankOrderx3
import Derived.Test.YtcnhjpnidfalpaaMFnRankOrderx4
import Derived.Test.YtcnhjpnidfalpaaBase
set_option linter.unusedVariables false
set_option linter.unusedSimpArgs false
namespace Go.Proofs.Ytcnhjpnidfalpaa.Pure
open Go.RowKit Go.Proofs.Ytcnhjpnidfalpaa.PFnRankOrder Go.Proofs.YtcnhjpnidfalpaaW.PrintWords Go.Proofs.YtcnhjpnidfalpaaW.PrintLast Go.Proofs.YtcnhjpnidfalpaaW.PrintMore Go.Proofs.Ytcnhjpnidfalpaa.Base
theorem u8_range {x : Int} (h : (Lit.int .u8 x).wf = true) : 0 ≤ x ∧ x ≤ 255 := by
  simp [Lit.wf, IntKind.min, IntKind.max, IntKind.bits, IntKind.signed] at h
  omega
/-! ## The reader that draws. -/
structure BytesOk (b : List Int) : Prop where
  len : b.length ≤ 2000
  mem : ∀ x ∈ b, 0 ≤ x ∧ x ≤ 255

theorem newReader_ok (l : List Int) (h : ∀ x ∈ l, 0 ≤ x ∧ x ≤ 255) : ∃ b, spec_newReader.f l = some (b, 0) ∧ BytesOk b := by
  unfold spec_newReader.f
  by_cases c : (l.length : Int) > 2000
  · rw [if_pos c, if_pos (by omega)]
    exact ⟨_, rfl, by rw [List.length_take]; omega, fun x hx => h x (List.mem_of_mem_take hx)⟩
  · rw [if_neg c]
    exact ⟨_, rfl, by omega, h⟩

theorem pick_ok (b : List Int) (p n : Int) (hb : BytesOk b) (h0 : 0 ≤ p) (h1 : p ≤ 100000) :
    EvS (fun k => spec_reader_pick.f k b p n) (fun r => 0 ≤ r.1 ∧ (1 ≤ n → r.1 < n) ∧ (n < 1 → r.1 = 0) ∧ r.2 = p + 1) := by
  have hp : wrap64 (p + 1) = p + 1 := w64 (by omega) (by omega)
  have hq : wrap64 (p + 1 - 1) = p := by rw [show p + 1 - 1 = p by omega]; exact w64 (by omega) (by omega)
  have hbl := hb.len
  simp only [spec_reader_pick.f]
  rw [hp]
  by_cases hn : n < 1
  · refine EvS.pos hn ?_
    refine EvS.step (fun k => by rw [spec_reader_pick.j0]) ?_
    refine EvS.pos rfl ?_
    exact EvS.now ⟨by simp, fun h => by omega, fun _ => rfl, rfl⟩
  · refine EvS.neg hn ?_
    refine EvS.step (fun k => by rw [spec_reader_pick.j0]) ?_
    simp only [hq]
    by_cases hl : b.length = 0
    · refine EvS.pos (by simp [hl]) ?_
      exact EvS.now ⟨by simp, fun h => by simp; omega, fun _ => rfl, rfl⟩
    · refine EvS.neg (by simp; intro h; exact hl (by simp [h])) ?_
      by_cases hpl : p < b.length
      · refine EvS.pos hpl (EvS.pos h0 (EvS.neg (by omega) ?_))
        have hr := rd_range hb.mem p h0 hpl
        rw [w64 (by omega) (by omega)]
        have ht := tmod_range (rd b p) n (by omega) (by omega)
        exact EvS.now ⟨ht.1, fun _ => ht.2, fun h => by omega, rfl⟩
      · refine EvS.neg hpl (EvS.neg (by omega) ?_)
        have e1 : wrap64 (wrap64 (p * 7) + 3) = p * 7 + 3 := by
          rw [w64 (x := p * 7) (by omega) (by omega)]; exact w64 (by omega) (by omega)
        simp only [e1]
        have i1 := tmod_range p b.length h0 (by omega)
        have i2 := tmod_range (p * 7 + 3) b.length (by omega) (by omega)
        refine EvS.pos i1.1 (EvS.pos i1.2 (EvS.pos i2.1 (EvS.pos i2.2 (EvS.neg (by omega) ?_))))
        have r1 := rd_range hb.mem _ i1.1 i1.2
        have r2 := rd_range hb.mem _ i2.1 i2.2
        generalize rd b (Int.tmod p b.length) = v1 at r1 ⊢
        generalize rd b (Int.tmod (p * 7 + 3) b.length) = v2 at r2 ⊢
        have d0 : 0 ≤ Int.tdiv p b.length ∧ Int.tdiv p b.length ≤ p := by
          rw [tdiv_pos _ _ h0]
          exact ⟨Int.ediv_nonneg h0 (by omega), Int.ediv_le_self _ h0⟩
        generalize Int.tdiv p b.length = dv at d0 ⊢
        simp (disch := omega) only [w64]
        have hx0 : 0 ≤ v1 * 131 + v2 * 1117 + p * 29 + dv * 53 := by omega
        have hx1 : v1 * 131 + v2 * 1117 + p * 29 + dv * 53 < 1000000000 := by omega
        generalize v1 * 131 + v2 * 1117 + p * 29 + dv * 53 = X at hx0 hx1 ⊢
        rw [tdiv_pos X 64 hx0, w64 (x := X / 64) (by omega) (by omega)]
        have ht := tmod_range (Go.bits .xor .i64 X (X / 64)) n (xor_nonneg _ _ (by omega) (by omega) (by omega) (by omega)) (by omega)
        exact EvS.now ⟨ht.1, fun _ => ht.2, fun h => by omega, rfl⟩

theorem one_ok (b : List Int) (p : Int) (l : List Int) (hb : BytesOk b) (h0 : 0 ≤ p) (h1 : p ≤ 100000) (hl : 1 ≤ l.length) :
    EvS (fun k => spec_reader_one.f k b p l) (fun r => r.1 ∈ l ∧ r.2 = p + 1) := by
  simp only [spec_reader_one.f]
  refine EvS.bind (pick_ok b p l.length hb h0 h1) ?_
  rintro ⟨v, q⟩ ⟨a1, a2, a3, a4⟩
  have a5 := a2 (by omega)
  refine EvS.pos a1 (EvS.pos a5 ?_)
  exact EvS.now ⟨rd_mem _ a1 a5, a4⟩
/-! ## Lists of numbers. -/
theorem inRange_eq (n lo hi : Int) : spec_inRange.f n lo hi = some (decide (lo ≤ n ∧ n ≤ hi)) := by
  unfold spec_inRange.f
  split
  · exact congrArg some (decide_eq_decide.2 (by omega))
  · exact congrArg some (decide_eq_false (by omega)).symm
def AllW (xs : List Int) (lo hi : Int) : Prop := ∀ x ∈ xs, lo ≤ x ∧ x ≤ hi
instance (xs : List Int) (lo hi : Int) : Decidable (AllW xs lo hi) := by unfold AllW; infer_instance
theorem allW_cons (y : Int) (ys : List Int) (lo hi : Int) : AllW (y :: ys) lo hi ↔ (lo ≤ y ∧ y ≤ hi) ∧ AllW ys lo hi := by
  unfold AllW; simp
/-- The first place of a number, counted from i on; -1 if it is not there. -/
def posF (v : Int) : Int → List Int → Int
  | _, [] => -1
  | i, x :: xs => if x = v then i else posF v (i + 1) xs
theorem posF_range (v : Int) (xs : List Int) : ∀ i : Int, 0 ≤ i → (v ∈ xs → i ≤ posF v i xs ∧ posF v i xs < i + xs.length) ∧ (v ∉ xs → posF v i xs = -1) := by
  induction xs with
  | nil => intro i h0; exact ⟨fun h => by simp at h, fun _ => rfl⟩
  | cons x xs ih =>
    intro i h0
    have h := ih (i + 1) (by omega)
    simp only [posF, List.length_cons]
    by_cases c : x = v
    · rw [if_pos c]; exact ⟨fun _ => by omega, fun g => absurd (by simp [c]) g⟩
    · rw [if_neg c]
      refine ⟨fun g => ?_, fun g => h.2 (fun g2 => g (List.mem_cons_of_mem _ g2))⟩
      have := h.1 ((List.mem_cons.1 g).resolve_left (fun e => c e.symm))
      omega
theorem posF_nonneg (v : Int) (xs : List Int) (i : Int) (h : 0 ≤ i) : (0 ≤ posF v i xs) ↔ v ∈ xs := by
  by_cases c : v ∈ xs
  · have := (posF_range v xs i h).1 c; exact ⟨fun _ => c, fun _ => by omega⟩
  · have := (posF_range v xs i h).2 c; exact ⟨fun g => by omega, fun g => absurd g c⟩
theorem placeIn_l0 (xs : List Int) (hl : xs.length ≤ 1099511627776) (v : Int) (ys : List Int) : ∀ i : Int, At xs i ys → EvS (fun k => spec_placeIn.l0 k xs v i) (· = posF v i ys) := by
  induction ys with
  | nil =>
    intro i h
    refine EvS.step (fun k => by rw [spec_placeIn.l0]) ?_
    exact EvS.neg (by have := h.ge; omega) (EvS.now rfl)
  | cons y ys ih =>
    intro i h
    have h1 := h.lt
    have h2 := h.nonneg
    have hw : wrap64 (i + 1) = i + 1 := w64 (by omega) (by omega)
    refine EvS.step (fun k => by rw [spec_placeIn.l0]) ?_
    refine EvS.pos h.lt (EvS.pos h.nonneg ?_)
    rw [At.rd h, hw, posF]
    by_cases c : y = v
    · rw [if_pos c]; exact EvS.pos c (EvS.now rfl)
    · rw [if_neg c]; exact EvS.neg c (ih _ h.next)
theorem placeIn_ok (xs : List Int) (hl : xs.length ≤ 1099511627776) (v : Int) : EvS (fun k => spec_placeIn.f k xs v) (· = posF v 0 xs) := by
  simp only [spec_placeIn.f]
  exact placeIn_l0 xs hl v xs 0 (At.zero xs)
theorem equalInts_l0 (xs : List Int) (hl : xs.length ≤ 1099511627776) (ys : List Int) : ∀ i : Int, At xs i ys → EvS (fun k => laws_equalInts.l0 k xs xs i) (· = true) := by
  induction ys with
  | nil =>
    intro i h
    refine EvS.step (fun k => by rw [laws_equalInts.l0]) ?_
    exact EvS.neg (by have := h.ge; omega) (EvS.now rfl)
  | cons y ys ih =>
    intro i h
    refine EvS.step (fun k => by rw [laws_equalInts.l0]) ?_
    exact EvS.pos h.lt (EvS.pos h.nonneg (EvS.pos h.lt (EvS.pos (by simp) (ih _ (h.wnext (by omega))))))
theorem equalInts_ok (xs : List Int) (hl : xs.length ≤ 1099511627776) : EvS (fun k => laws_equalInts.f k xs xs) (· = true) := by
  simp only [laws_equalInts.f]
  exact EvS.pos (by trivial) (equalInts_l0 xs hl xs 0 (At.zero xs))
/-- Different numbers from 0 to n - 1. -/
def Diff (xs : List Int) (n : Int) : Prop := xs.Nodup ∧ ∀ x ∈ xs, 0 ≤ x ∧ x < n
instance (xs : List Int) (n : Int) : Decidable (Diff xs n) := by unfold Diff; infer_instance
def DiffF (pre ys : List Int) (n : Int) : Prop := ys.Nodup ∧ ∀ y ∈ ys, 0 ≤ y ∧ y < n ∧ y ∉ pre
instance (pre ys : List Int) (n : Int) : Decidable (DiffF pre ys n) := by unfold DiffF; infer_instance
theorem diffF_cons (pre : List Int) (y : Int) (ys : List Int) (n : Int) : DiffF pre (y :: ys) n ↔ (0 ≤ y ∧ y < n ∧ y ∉ pre) ∧ DiffF (y :: pre) ys n := by
  unfold DiffF
  constructor
  · rintro ⟨h1, h2⟩
    have h1 := List.nodup_cons.1 h1
    refine ⟨h2 y List.mem_cons_self, h1.2, fun z hz => ?_⟩
    have := h2 z (List.mem_cons_of_mem _ hz)
    refine ⟨this.1, this.2.1, fun hm => ?_⟩
    rcases List.mem_cons.1 hm with rfl | hm
    · exact h1.1 hz
    · exact this.2.2 hm
  · rintro ⟨h1, h2, h3⟩
    refine ⟨List.nodup_cons.2 ⟨fun hm => (h3 y hm).2.2 List.mem_cons_self, h2⟩, fun z hz => ?_⟩
    rcases List.mem_cons.1 hz with rfl | hz
    · exact h1
    · have := h3 z hz
      exact ⟨this.1, this.2.1, fun hm => this.2.2 (List.mem_cons_of_mem _ hm)⟩
theorem diffF_congr {p q ys : List Int} {n : Int} (h : ∀ x, x ∈ p ↔ x ∈ q) : DiffF p ys n ↔ DiffF q ys n := by
  unfold DiffF
  simp only [h]
theorem diffF_nil (xs : List Int) (n : Int) : DiffF [] xs n ↔ Diff xs n := by
  unfold DiffF Diff; simp
theorem diff_len {xs : List Int} {n : Int} (h : Diff xs n) : (xs.length : Int) ≤ n ∨ xs = [] := by
  rcases xs with _ | ⟨x, xs⟩
  · exact .inr rfl
  · left
    have h1 : 0 ≤ n := by have := h.2 x List.mem_cons_self; omega
    have h2 : (x :: xs) ⊆ (List.range n.toNat).map (fun m : Nat => (m : Int)) := by
      intro y hy
      have := h.2 y hy
      exact List.mem_map.2 ⟨y.toNat, List.mem_range.2 (by omega), by omega⟩
    have h3 := h.1.length_le_of_subset h2
    rw [List.length_map, List.length_range] at h3
    omega
theorem differentBelow_l0 (xs : List Int) (hl : xs.length ≤ 1099511627776) (n : Int) (ys : List Int) : ∀ (i : Int) (seen : List Bool) (pre : List Int), At xs i ys → (seen.length : Int) = n → (∀ v : Int, 0 ≤ v → v < n → (rdOf false seen v = true ↔ v ∈ pre)) →
    EvS (fun k => impl_differentBelow.l0 k n seen xs xs.length i) (· = decide (DiffF pre ys n)) := by
  induction ys with
  | nil =>
    intro i seen pre h hs hv
    refine EvS.step (fun k => by rw [impl_differentBelow.l0]) ?_
    exact EvS.neg (by have := h.ge; omega) (EvS.now (by simp [DiffF]))
  | cons y ys ih =>
    intro i seen pre h hs hv
    refine EvS.step (fun k => by rw [impl_differentBelow.l0]) ?_
    refine EvS.pos h.lt (EvS.pos h.nonneg (EvS.pos h.lt ?_))
    rw [At.rd h]
    refine EvS.ite (fun c => EvS.now (decide_eq_false (fun g => by have := ((diffF_cons _ _ _ _).1 g).1; omega)).symm) (fun c1 => EvS.ite (fun c => EvS.now (decide_eq_false (fun g => by have := ((diffF_cons _ _ _ _).1 g).1; omega)).symm) (fun c2 => EvS.pos (by omega) (EvS.pos (by omega) ?_)))
    have hy := hv y (by omega) (by omega)
    refine EvS.ite (fun c => EvS.now (decide_eq_false (fun g => ((diffF_cons _ _ _ _).1 g).1.2.2 (hy.1 c))).symm) (fun c3 => ?_)
    refine EvS.mono (ih _ (seen.set y.toNat true) (y :: pre) (h.wnext (by omega)) (by simpa using hs) (fun v h0 h1 => ?_)) (fun r hr => ?_)
    · unfold rdOf
      rw [List.getD_eq_getElem?_getD, List.getElem?_set]
      by_cases e : y = v
      · subst e
        rw [if_pos rfl, if_pos (by omega)]
        exact ⟨fun _ => List.mem_cons_self, fun _ => rfl⟩
      · rw [if_neg (by omega)]
        have := hv v h0 h1
        unfold rdOf at this
        rw [List.getD_eq_getElem?_getD] at this
        rw [this, List.mem_cons]
        exact ⟨fun g => .inr g, fun g => g.resolve_left (fun e2 => e e2.symm)⟩
    · rw [hr]
      exact decide_eq_decide.2 ⟨fun g => (diffF_cons _ _ _ _).2 ⟨⟨by omega, by omega, fun hm => c3 (hy.2 hm)⟩, g⟩, fun g => ((diffF_cons _ _ _ _).1 g).2⟩
theorem differentBelow_ok (xs : List Int) (hl : xs.length ≤ 1099511627776) (n : Int) (hn : n ≤ 1099511627776) (h0 : 0 ≤ n) : EvS (fun k => impl_differentBelow.f k xs n) (· = decide (Diff xs n)) := by
  simp only [impl_differentBelow.f]
  refine EvS.ite (fun c => EvS.now (decide_eq_false (fun g => ?_)).symm) (fun c => EvS.pos h0 (EvS.pos (by omega) ?_))
  · rcases diff_len g with h | h
    · omega
    · subst h; simp at c; omega
  · refine EvS.mono (differentBelow_l0 xs hl n xs 0 _ [] (At.zero xs) (by simp; omega) (fun v _ _ => ?_)) (fun r hr => ?_)
    · unfold rdOf
      rw [List.getD_eq_getElem?_getD, List.getElem?_replicate]
      split <;> simp
    · rw [hr]
      exact decide_eq_decide.2 (diffF_nil xs n)
theorem validMembers_l0 (xs : List Int) (hl : xs.length ≤ 1099511627776) (n : Int) (hn : n ≤ 1099511627776) (h0 : 0 ≤ n) (ys : List Int) : ∀ i : Int, At xs i ys → EvS (fun k => spec_validMembers.l0 k xs n i) (· = decide (DiffF (xs.take i.toNat) ys n)) := by
  induction ys with
  | nil =>
    intro i h
    refine EvS.step (fun k => by rw [spec_validMembers.l0]) ?_
    exact EvS.neg (by have := h.ge; omega) (EvS.now (by simp [DiffF]))
  | cons y ys ih =>
    intro i h
    have h1 := h.lt
    have h2 := h.nonneg
    have hw : wrap64 (i + 1) = i + 1 := w64 (by omega) (by omega)
    refine EvS.step (fun k => by rw [spec_validMembers.l0]) ?_
    refine EvS.pos h.lt (EvS.pos h.nonneg ?_)
    rw [At.rd h, hw, w64 (x := n - 1) (by omega) (by omega)]
    refine EvS.call (inRange_eq _ _ _) (EvS.ite (fun c => EvS.pos (by omega) ?_) (fun c => EvS.now ?_))
    · have c := of_decide_eq_true c
      refine EvS.bindv (placeIn_ok _ (by rw [List.length_take]; omega) y) ?_
      have hp := posF_nonneg y (xs.take i.toNat) 0 (by omega)
      refine EvS.ite (fun g => EvS.now (decide_eq_false (fun g2 => ((diffF_cons _ _ _ _).1 g2).1.2.2 (hp.1 g))).symm) (fun g => ?_)
      refine EvS.mono (ih _ h.next) (fun r hr => ?_)
      rw [hr]
      refine decide_eq_decide.2 (Iff.trans (diffF_congr (q := y :: xs.take i.toNat) (fun x => ?_)) ⟨fun g2 => (diffF_cons _ _ _ _).2 ⟨⟨c.1, by omega, fun hm => g (hp.2 hm)⟩, g2⟩, fun g2 => ((diffF_cons _ _ _ _).1 g2).2⟩)
      simp only [h.take, List.mem_append, List.mem_cons, List.not_mem_nil, or_false]
      exact or_comm
    · have c := ndec c
      exact (decide_eq_false (fun g => c (by have := ((diffF_cons _ _ _ _).1 g).1; omega))).symm
theorem validMembers_ok (xs : List Int) (hl : xs.length ≤ 1099511627776) (n : Int) (hn : n ≤ 1099511627776) (h0 : 0 ≤ n) : EvS (fun k => spec_validMembers.f k xs n) (· = decide (Diff xs n)) := by
  simp only [spec_validMembers.f]
  refine EvS.mono (validMembers_l0 xs hl n hn h0 xs 0 (At.zero xs)) (fun r hr => ?_)
  rw [hr]
  exact decide_eq_decide.2 (diffF_nil xs n)
/-! ## Orders and their numbers. -/
def fac : Nat → Int
  | 0 => 1
  | n + 1 => ((n : Int) + 1) * fac n
theorem fac_pos (n : Nat) : 1 ≤ fac n := by
  induction n with
  | zero => exact Int.le_refl _
  | succ n ih =>
    simp only [fac]
    have := Int.mul_le_mul (show (1 : Int) ≤ (n : Int) + 1 by omega) ih (by omega) (by omega)
    omega
theorem fac_9 (n : Nat) (h : n ≤ 9) : fac n ≤ 362880 := by
  have : ∀ n : Fin 10, fac n.val ≤ 362880 := by decide
  exact this ⟨n, by omega⟩
/-- Division with a rest, told by its parts. -/
theorem div_of {q f r : Int} (hf : 0 < f) (h0 : 0 ≤ r) (h1 : r < f) : (q * f + r) / f = q ∧ (q * f + r) % f = r :=
  (Int.ediv_emod_unique hf).2 ⟨by rw [Int.mul_comm]; omega, h0, h1⟩
theorem div_parts (n f : Int) (hf : 0 < f) : n / f * f + n % f = n ∧ 0 ≤ n % f ∧ n % f < f :=
  ⟨by rw [Int.mul_comm]; exact Int.mul_ediv_add_emod n f, Int.emod_nonneg _ (by omega), Int.emod_lt_of_pos _ hf⟩
theorem div_range {n : Int} {d : Nat} (h0 : 0 ≤ n) (h1 : n < fac (d + 1)) : 0 ≤ n / fac d ∧ n / fac d ≤ d := by
  have hf := fac_pos d
  refine ⟨Int.ediv_nonneg h0 (by omega), ?_⟩
  have : n / fac d < (d : Int) + 1 := Int.ediv_lt_of_lt_mul (by omega) h1
  omega
def upsL : Nat → Int → List Int
  | 0, _ => []
  | d + 1, i => i :: upsL d (i + 1)
theorem upsL_len (d : Nat) : ∀ i : Int, (upsL d i).length = d := by
  induction d with
  | zero => intro i; rfl
  | succ d ih => intro i; simp [upsL, ih]
theorem upsL_mem (d : Nat) : ∀ i c : Int, c ∈ upsL d i ↔ i ≤ c ∧ c < i + d := by
  induction d with
  | zero => intro i c; simp only [upsL, List.not_mem_nil, false_iff]; omega
  | succ d ih => intro i c; simp only [upsL, List.mem_cons, ih]; omega
abbrev Asc (l : List Int) : Prop := l.Pairwise (· < ·)
theorem upsL_asc (d : Nat) : ∀ i : Int, Asc (upsL d i) := by
  induction d with
  | zero => intro i; exact List.Pairwise.nil
  | succ d ih =>
    intro i
    refine List.Pairwise.cons (fun c hc => ?_) (ih _)
    have := (upsL_mem d (i + 1) c).1 hc
    omega
/-- The order with a number. -/
def ordL : Nat → Int → List Int → List Int
  | 0, _, _ => []
  | d + 1, n, l => rd l (n / fac d) :: ordL d (n % fac d) (l.eraseIdx (n / fac d).toNat)
theorem ordL_len (d : Nat) : ∀ (n : Int) (l : List Int), (ordL d n l).length = d := by
  induction d with
  | zero => intro n l; rfl
  | succ d ih => intro n l; simp [ordL, ih]
theorem rd_get (l : List Int) (q : Int) (h0 : 0 ≤ q) (h : q.toNat < l.length) : rd l q = l[q.toNat] := by
  unfold rd
  rw [List.getD_eq_getElem?_getD, List.getElem?_eq_getElem h]; rfl
theorem erase_perm {l : List Int} {n : Nat} (h : n < l.length) : (l[n] :: l.eraseIdx n).Perm l := by
  have e : l = l.take n ++ l[n] :: l.drop (n + 1) := by rw [List.getElem_cons_drop, List.take_append_drop]
  rw [List.eraseIdx_eq_take_drop_succ]
  refine List.perm_middle.symm.trans ?_
  rw [← e]
theorem ordL_perm (d : Nat) : ∀ (n : Int) (l : List Int), l.length = d → 0 ≤ n → n < fac d → (ordL d n l).Perm l := by
  induction d with
  | zero =>
    intro n l hl _ _
    rw [List.length_eq_zero_iff.1 hl]
    exact List.Perm.refl _
  | succ d ih =>
    intro n l hl h0 h1
    have hf := fac_pos d
    have hq := div_range h0 h1
    have hp := div_parts n (fac d) (by omega)
    have hlt : (n / fac d).toNat < l.length := by omega
    simp only [ordL]
    rw [rd_get l _ hq.1 hlt]
    exact (List.Perm.cons _ (ih _ _ (by rw [List.length_eraseIdx_of_lt hlt]; omega) hp.2.1 hp.2.2)).trans (erase_perm hlt)
def lessC (x : Int) (l : List Int) : Int := ((l.countP (fun y => decide (y < x)) : Nat) : Int)
theorem lessC_cons (x y : Int) (l : List Int) : lessC x (y :: l) = lessC x l + if y < x then 1 else 0 := by
  unfold lessC
  rw [List.countP_cons]
  by_cases h : y < x <;> simp [h]
theorem lessC_range (x : Int) (l : List Int) : 0 ≤ lessC x l ∧ lessC x l ≤ l.length := by
  have := List.countP_le_length (p := fun y => decide (y < x)) (l := l)
  unfold lessC
  omega
theorem lessC_perm {x : Int} {l l' : List Int} (h : l.Perm l') : lessC x l = lessC x l' := by
  unfold lessC
  rw [h.countP_eq]
/-- In an ascending list as many are less than a number as stand ahead of it. -/
theorem lessC_at (l : List Int) : ∀ (q : Nat) (h : q < l.length), Asc l → lessC l[q] (l.eraseIdx q) = q := by
  induction l with
  | nil => intro q h; simp at h
  | cons a l ih =>
    intro q h hs
    have h1 := List.pairwise_cons.1 hs
    cases q with
    | zero =>
      simp only [List.getElem_cons_zero, List.eraseIdx_cons_zero]
      unfold lessC
      rw [List.countP_eq_zero.2 (fun y hy => by have := h1.1 y hy; simp; omega)]
    | succ q =>
      have hq : q < l.length := by simpa using h
      simp only [List.getElem_cons_succ, List.eraseIdx_cons_succ]
      rw [lessC_cons, ih q hq h1.2, if_pos (h1.1 _ (List.getElem_mem hq))]
      omega
def rankL : List Int → Int
  | [] => 0
  | x :: xs => lessC x xs * fac xs.length + rankL xs
theorem rankL_range (l : List Int) : 0 ≤ rankL l ∧ rankL l < fac l.length := by
  induction l with
  | nil => simp [rankL, fac]
  | cons x xs ih =>
    have h1 := lessC_range x xs
    have hf := fac_pos xs.length
    have h2 : 0 ≤ lessC x xs * fac xs.length := Int.mul_nonneg h1.1 (by omega)
    have h3 : lessC x xs * fac xs.length ≤ (xs.length : Int) * fac xs.length := Int.mul_le_mul_of_nonneg_right h1.2 (by omega)
    simp only [rankL, List.length_cons, fac, Int.add_mul, Int.one_mul]
    omega
theorem rank_ord (d : Nat) : ∀ (n : Int) (l : List Int), l.length = d → 0 ≤ n → n < fac d → Asc l → rankL (ordL d n l) = n := by
  induction d with
  | zero =>
    intro n l hl h0 h1 _
    simp only [fac] at h1
    simp only [ordL, rankL]
    omega
  | succ d ih =>
    intro n l hl h0 h1 hs
    have hf := fac_pos d
    have hq := div_range h0 h1
    have hp := div_parts n (fac d) (by omega)
    have hlt : (n / fac d).toNat < l.length := by omega
    have hel : (l.eraseIdx (n / fac d).toNat).length = d := by rw [List.length_eraseIdx_of_lt hlt]; omega
    simp only [ordL, rankL]
    rw [ih _ _ hel hp.2.1 hp.2.2 (hs.sublist (List.eraseIdx_sublist l _)), ordL_len, lessC_perm (ordL_perm d _ _ hel hp.2.1 hp.2.2), rd_get l _ hq.1 hlt, lessC_at l _ hlt hs, Int.toNat_of_nonneg hq.1]
    exact hp.1
theorem ord_rank (d : Nat) : ∀ o l : List Int, o.Perm l → l.length = d → Asc l → ordL d (rankL o) l = o := by
  induction d with
  | zero =>
    intro o l hp hl _
    have := List.length_eq_zero_iff.1 hl
    subst this
    rw [List.perm_nil.1 hp]
    rfl
  | succ d ih =>
    intro o l hp hl hs
    cases o with
    | nil => have := hp.length_eq; simp at this; omega
    | cons x xs =>
      have hxl : xs.length = d := by have := hp.length_eq; simp at this; omega
      obtain ⟨j, hj, hx⟩ := List.getElem_of_mem (hp.subset List.mem_cons_self)
      have hr : xs.Perm (l.eraseIdx j) := by
        have h2 := hp.trans (erase_perm hj).symm
        rw [hx] at h2
        exact h2.cons_inv
      have hle : lessC x xs = j := by rw [lessC_perm hr, ← hx, lessC_at l j hj hs]
      have hrr := rankL_range xs
      rw [hxl] at hrr
      have hd := div_of (q := (j : Int)) (f := fac d) (r := rankL xs) (by omega) hrr.1 hrr.2
      simp only [ordL, rankL]
      rw [hle, hxl, hd.1, hd.2, Int.toNat_natCast, rd_get l j (by omega) (by omega)]
      simp only [Int.toNat_natCast]
      rw [hx, ih xs _ hr (by rw [List.length_eraseIdx_of_lt hj]; omega) (hs.sublist (List.eraseIdx_sublist l _))]
/-! ### the program's and the reference's functions -/
theorem impl_factorial_l0 (n : Nat) (hn : n ≤ 9) (d : Nat) : ∀ (i : Int) (e : Nat), i + d = n + 1 → i = (e : Int) + 1 → EvS (fun k => impl_factorial.l0 k n (fac e) i) (· = fac n) := by
  induction d with
  | zero =>
    intro i e h1 h2
    refine EvS.step (fun k => by rw [impl_factorial.l0]) ?_
    exact EvS.neg (by omega) (EvS.now (by rw [show e = n by omega]))
  | succ d ih =>
    intro i e h1 h2
    have hf := fac_9 (e + 1) (by omega)
    have hf2 := fac_pos (e + 1)
    have he : fac e * i = fac (e + 1) := by rw [h2, fac, Int.mul_comm]
    refine EvS.step (fun k => by rw [impl_factorial.l0]) ?_
    rw [he, w64 (x := fac (e + 1)) (by omega) (by omega), w64 (x := i + 1) (by omega) (by omega)]
    exact EvS.pos (by omega) (ih (i + 1) (e + 1) (by omega) (by omega))
theorem impl_factorial_ok (n : Nat) (hn : n ≤ 9) : EvS (fun k => impl_factorial.f k n) (· = fac n) := by
  simp only [impl_factorial.f]
  cases n with
  | zero =>
    refine EvS.step (fun k => by rw [impl_factorial.l0]) ?_
    exact EvS.neg (by omega) (EvS.now rfl)
  | succ n => exact impl_factorial_l0 (n + 1) hn n 2 1 (by omega) (by omega)
theorem laws_factorial_l0 (n : Nat) (hn : n ≤ 9) (d : Nat) : ∀ (i : Int) (e : Nat), i + d = n + 1 → i = (e : Int) + 1 → EvS (fun k => laws_factorial.l0 k n (fac e) i) (· = fac n) := by
  induction d with
  | zero =>
    intro i e h1 h2
    refine EvS.step (fun k => by rw [laws_factorial.l0]) ?_
    exact EvS.neg (by omega) (EvS.now (by rw [show e = n by omega]))
  | succ d ih =>
    intro i e h1 h2
    have hf := fac_9 (e + 1) (by omega)
    have hf2 := fac_pos (e + 1)
    have he : fac e * i = fac (e + 1) := by rw [h2, fac, Int.mul_comm]
    refine EvS.step (fun k => by rw [laws_factorial.l0]) ?_
    rw [he, w64 (x := fac (e + 1)) (by omega) (by omega), w64 (x := i + 1) (by omega) (by omega)]
    exact EvS.pos (by omega) (ih (i + 1) (e + 1) (by omega) (by omega))
theorem laws_factorial_ok (n : Nat) (hn : n ≤ 9) : EvS (fun k => laws_factorial.f k n) (· = fac n) := by
  simp only [laws_factorial.f]
  cases n with
  | zero =>
    refine EvS.step (fun k => by rw [laws_factorial.l0]) ?_
    exact EvS.neg (by omega) (EvS.now rfl)
  | succ n => exact laws_factorial_l0 (n + 1) hn n 2 1 (by omega) (by omega)
def orderAt (n m : Int) : List Int := if (1 ≤ m ∧ m ≤ 8) ∧ 0 ≤ n ∧ n < fac m.toNat then ordL m.toNat n (upsL m.toNat 0) else []
theorem orderAt_len (n m : Int) : (orderAt n m).length ≤ 8 := by
  unfold orderAt
  split
  · rw [ordL_len]; omega
  · simp
theorem delete_eq (l : List Int) (i : Int) (h0 : 0 ≤ i) (h1 : i < l.length) : slices_Delete_int_int.f l i (i + 1) = some (l.eraseIdx i.toNat) := by
  unfold slices_Delete_int_int.f
  rw [if_pos h0, if_pos h1, if_pos rfl]
theorem impl_order_l1 (d : Nat) : ∀ (n : Int) (l out : List Int), l.length = d → d ≤ 8 → 0 ≤ n → n < fac d → out.length + d ≤ 8 → EvS (fun k => impl_OrderAt.l1 k n l out) (· = out ++ ordL d n l) := by
  induction d with
  | zero =>
    intro n l out hl hd h0 h1 ho
    refine EvS.step (fun k => by rw [impl_OrderAt.l1]) ?_
    exact EvS.neg (by omega) (EvS.now (by simp [ordL]))
  | succ d ih =>
    intro n l out hl hd h0 h1 ho
    have hf := fac_pos d
    have hf9 := fac_9 d (by omega)
    have hf9' := fac_9 (d + 1) (by omega)
    have hq := div_range h0 h1
    have hp := div_parts n (fac d) (by omega)
    have hlt : (n / fac d).toNat < l.length := by omega
    have e1 : wrap64 ((l.length : Int) - 1) = (d : Int) := by rw [w64 (by omega) (by omega)]; omega
    refine EvS.step (fun k => by rw [impl_OrderAt.l1]) ?_
    rw [e1]
    refine EvS.pos (by omega) (EvS.bindv (impl_factorial_ok d (by omega)) (EvS.neg (by omega) ?_))
    rw [tdiv_pos n (fac d) h0, tmod_pos n (fac d) h0, w64 (x := n / fac d) (by omega) (by omega), w64 (x := n / fac d + 1) (by omega) (by omega)]
    refine EvS.pos hq.1 (EvS.pos (by omega) (EvS.pos (by omega) (EvS.call (delete_eq l _ hq.1 (by omega)) ?_)))
    refine EvS.mono (ih (n % fac d) _ _ (by rw [List.length_eraseIdx_of_lt hlt]; omega) (by omega) hp.2.1 hp.2.2 (by simp; omega)) (fun r hr => ?_)
    rw [hr, ordL]
    simp
theorem impl_order_l0 (n m : Int) (hm : 1 ≤ m ∧ m ≤ 8) (h0 : 0 ≤ n) (h1 : n < fac m.toNat) (d : Nat) : ∀ (i : Int) (out : List Int), i + d = m → 0 ≤ i → (out.length : Int) = i → out ++ upsL d i = upsL m.toNat 0 → EvS (fun k => impl_OrderAt.l0 k n out m i) (· = ordL m.toNat n (upsL m.toNat 0)) := by
  induction d with
  | zero =>
    intro i out e1 e2 e3 e4
    refine EvS.step (fun k => by rw [impl_OrderAt.l0]) ?_
    simp only [upsL, List.append_nil] at e4
    subst e4
    refine EvS.neg (by omega) (EvS.mono (impl_order_l1 m.toNat n _ [] (upsL_len _ _) (by omega) h0 h1 (by simp; omega)) (fun r hr => ?_))
    rw [hr]; rfl
  | succ d ih =>
    intro i out e1 e2 e3 e4
    refine EvS.step (fun k => by rw [impl_OrderAt.l0]) ?_
    rw [w64 (x := i + 1) (by omega) (by omega)]
    refine EvS.pos (by omega) (EvS.pos (by omega) (ih (i + 1) _ (by omega) (by omega) (by simp; omega) ?_))
    rw [← e4, upsL]
    simp
theorem impl_OrderAt_ok (n m : Int) : EvS (fun k => impl_OrderAt.f k n m) (· = orderAt n m) := by
  have jt : ¬ ((1 ≤ m ∧ m ≤ 8) ∧ 0 ≤ n ∧ n < fac m.toNat) → EvS (fun k => impl_OrderAt.j0 k n m true) (· = orderAt n m) := by
    intro g
    refine EvS.step (fun k => by rw [impl_OrderAt.j0]) ?_
    exact EvS.pos rfl (EvS.now (by unfold orderAt; rw [if_neg g]))
  simp only [impl_OrderAt.f]
  refine EvS.ite (fun c => jt (fun g => by omega)) (fun c1 => EvS.ite (fun c => jt (fun g => by omega)) (fun c2 => EvS.ite (fun c => jt (fun g => by omega)) (fun c3 => ?_)))
  obtain ⟨q, rfl⟩ := Int.eq_ofNat_of_zero_le (show 0 ≤ m by omega)
  refine EvS.bindv (impl_factorial_ok q (by omega)) ?_
  by_cases c4 : n ≥ fac q
  · rw [decide_eq_true c4]
    exact jt (fun g => by have := g.2.2; rw [Int.toNat_natCast] at this; omega)
  · rw [decide_eq_false c4]
    refine EvS.step (fun k => by rw [impl_OrderAt.j0]) ?_
    refine EvS.neg (by simp) ?_
    unfold orderAt
    rw [if_pos ⟨by omega, by omega, by rw [Int.toNat_natCast]; omega⟩]
    exact impl_order_l0 n q (by omega) (by omega) (by rw [Int.toNat_natCast]; omega) q 0 [] (by omega) (by omega) rfl (by simp)
/-! ## The number of an order. -/
def VOrd (l : List Int) : Prop := (1 ≤ l.length ∧ l.length ≤ 8) ∧ Diff l l.length
instance (l : List Int) : Decidable (VOrd l) := by unfold VOrd; infer_instance
def rankO (l : List Int) : Int := if VOrd l then rankL l else -1
theorem ord_perm {l : List Int} (h : VOrd l) : l.Perm (upsL l.length 0) := by
  have hsub : l ⊆ upsL l.length 0 := fun x hx => (upsL_mem _ _ _).2 (by have := h.2.2 x hx; omega)
  have hn : (upsL l.length 0).Nodup := (upsL_asc _ _).imp (fun h => by omega)
  have hback : ∀ x ∈ upsL l.length 0, x ∈ l := by
    intro x hx
    by_cases c : x ∈ l
    · exact c
    · have hr := (upsL_mem _ _ _).1 hx
      have h3 : Diff (x :: l) l.length := ⟨List.nodup_cons.2 ⟨c, h.2.1⟩, fun z hz => by
        rcases List.mem_cons.1 hz with rfl | hz
        · omega
        · exact h.2.2 z hz⟩
      rcases diff_len h3 with h4 | h4
      · rw [List.length_cons] at h4; omega
      · simp at h4
  exact (List.perm_ext_iff_of_nodup h.2.1 hn).2 (fun x => ⟨fun hx => hsub hx, hback x⟩)
theorem rank_l1 {P : Int → Prop} (l : List Int) (hl : l.length ≤ 8) (rank i x : Int) (rest : List Int) (hr : rest.length ≤ 8) (e : Nat) (he : wrap64 (wrap64 ((l.length : Int) - 1) - i) = (e : Int)) (he8 : e ≤ 8)
    (K : EvS (fun k => impl_RankOrder.l0 k l (wrap64 (rank + wrap64 (lessC x rest * fac e))) l l.length (wrap64 (i + 1))) P) (ys : List Int) :
    ∀ (j less : Int), At rest j ys → 0 ≤ less → less ≤ j → less + lessC x ys = lessC x rest → EvS (fun k => impl_RankOrder.l1 k l rank i x less l l.length i rest rest.length j) P := by
  induction ys with
  | nil =>
    intro j less h h0 h1 h2
    refine EvS.step (fun k => by rw [impl_RankOrder.l1]) ?_
    rw [he]
    have : less = lessC x rest := by rw [← h2]; simp [lessC]
    rw [this]
    exact EvS.neg (by have := h.ge; omega) (EvS.bindv (impl_factorial_ok e (by omega)) K)
  | cons y ys ih =>
    intro j less h h0 h1 h2
    have g0 := h.nonneg
    have g1 := h.lt
    refine EvS.step (fun k => by rw [impl_RankOrder.l1]) ?_
    rw [At.rd h, w64 (x := j + 1) (by omega) (by omega), w64 (x := less + 1) (by omega) (by omega)]
    rw [lessC_cons] at h2
    refine EvS.pos h.lt (EvS.pos h.nonneg (EvS.pos h.lt (EvS.ite (fun c => ?_) (fun c => ?_))))
    · rw [if_pos c] at h2
      exact ih (j + 1) (less + 1) h.next (by omega) (by omega) (by omega)
    · rw [if_neg c] at h2
      exact ih (j + 1) less h.next (by omega) (by omega) (by omega)
theorem rank_l0 (l : List Int) (hl : l.length ≤ 8) (ys : List Int) : ∀ (i rank : Int), At l i ys → 0 ≤ rank → rank + rankL ys = rankL l → EvS (fun k => impl_RankOrder.l0 k l rank l l.length i) (· = rankL l) := by
  have hb := rankL_range l
  have hf9 := fac_9 l.length (by omega)
  induction ys with
  | nil =>
    intro i rank h h0 h1
    refine EvS.step (fun k => by rw [impl_RankOrder.l0]) ?_
    exact EvS.neg (by have := h.ge; omega) (EvS.now (by rw [← h1]; simp [rankL]))
  | cons y ys ih =>
    intro i rank h h0 h1
    have g0 := h.nonneg
    have g1 := h.lt
    have g2 := h.len
    rw [List.length_cons] at g2
    have hw : wrap64 (i + 1) = i + 1 := w64 (by omega) (by omega)
    have hd : l.drop (i + 1).toNat = ys := h.next.drop
    refine EvS.step (fun k => by rw [impl_RankOrder.l0]) ?_
    rw [hw, At.rd h]
    refine EvS.pos h.lt (EvS.pos h.nonneg (EvS.pos h.lt (EvS.pos (by omega) (EvS.pos (by omega) ?_))))
    rw [hd]
    have e1 : wrap64 (wrap64 ((l.length : Int) - 1) - i) = (ys.length : Int) := by rw [w64 (x := (l.length : Int) - 1) (by omega) (by omega), w64 (by omega) (by omega)]; omega
    have hr := rankL_range ys
    have hlc := lessC_range y ys
    have hfp := fac_pos ys.length
    have hm0 : 0 ≤ lessC y ys * fac ys.length := Int.mul_nonneg hlc.1 (by omega)
    simp only [rankL] at h1
    refine rank_l1 l hl rank i y ys (by omega) ys.length e1 (by omega) ?_ ys 0 0 (At.zero _) (by omega) (by omega) (by omega)
    rw [hw, w64 (x := lessC y ys * fac ys.length) (by omega) (by omega), w64 (x := rank + lessC y ys * fac ys.length) (by omega) (by omega)]
    exact ih (i + 1) _ h.next (by omega) (by omega)
theorem impl_ValidOrder_ok (l : List Int) (hl : l.length ≤ 2000000) : EvS (fun k => impl_ValidOrder.f k l) (· = decide ((1 ≤ l.length ∧ l.length ≤ 12) ∧ Diff l l.length)) := by
  simp only [impl_ValidOrder.f]
  refine EvS.ite (fun c1 => EvS.ite (fun c2 => EvS.bindv (differentBelow_ok l (by omega) _ (by omega) (by omega)) (EvS.now ?_)) (fun c2 => EvS.now (decide_eq_false (fun g => by have := g.1; omega)).symm)) (fun c1 => EvS.now (decide_eq_false (fun g => by have := g.1; omega)).symm)
  exact decide_eq_decide.2 ⟨fun g => ⟨by omega, g⟩, fun g => g.2⟩
theorem impl_RankOrder_ok (l : List Int) (hl : l.length ≤ 2000000) : EvS (fun k => impl_RankOrder.f k l) (· = rankO l) := by
  have jt : ¬ VOrd l → EvS (fun k => impl_RankOrder.j0 k l true) (· = rankO l) := by
    intro g
    refine EvS.step (fun k => by rw [impl_RankOrder.j0]) ?_
    exact EvS.pos rfl (EvS.now (by unfold rankO; rw [if_neg g]))
  simp only [impl_RankOrder.f]
  refine EvS.ite (fun c => jt (fun g => by have := g.1; omega)) (fun c => EvS.bindv (impl_ValidOrder_ok l hl) ?_)
  by_cases d : (1 ≤ l.length ∧ l.length ≤ 12) ∧ Diff l l.length
  · rw [decide_eq_true d]
    have hv : VOrd l := ⟨by have := d.1; omega, d.2⟩
    refine EvS.step (fun k => by rw [impl_RankOrder.j0]) ?_
    unfold rankO
    rw [if_pos hv]
    exact EvS.neg (by simp) (rank_l0 l hv.1.2 l 0 0 (At.zero _) (by omega) (by omega))
  · rw [decide_eq_false d]
    exact jt (fun g => d ⟨by have := g.1; omega, g.2⟩)
theorem spec_validOrder_ok (l : List Int) (hl : l.length ≤ 2000000) : EvS (fun k => spec_validOrder.f k l) (· = decide ((1 ≤ l.length ∧ l.length ≤ 12) ∧ Diff l l.length)) := by
  simp only [spec_validOrder.f]
  refine EvS.call (inRange_eq _ _ _) (EvS.ite (fun c => EvS.bindv (validMembers_ok l (by omega) _ (by omega) (by omega)) (EvS.now ?_)) (fun c => EvS.now (decide_eq_false (fun g => ndec c (by have := g.1; omega))).symm))
  have c := of_decide_eq_true c
  exact decide_eq_decide.2 ⟨fun g => ⟨by omega, g⟩, fun g => g.2⟩
theorem spec_rank_l1 {P : Int → Prop} (l : List Int) (hl : l.length ≤ 8) (rank i x : Int) (hi : 0 ≤ i ∧ i < l.length) (hx : rd l i = x) (tot : Int)
    (K : EvS (fun k => spec_rank.l0 k l (wrap64 (wrap64 (rank * wrap64 ((l.length : Int) - i)) + tot)) (wrap64 (i + 1))) P) (ys : List Int) :
    ∀ (j less : Int), At l j ys → 0 ≤ less → less ≤ j → less + lessC x ys = tot → EvS (fun k => spec_rank.l1 k l rank i less j) P := by
  induction ys with
  | nil =>
    intro j less h h0 h1 h2
    refine EvS.step (fun k => by rw [spec_rank.l1]) ?_
    have : less = tot := by rw [← h2]; simp [lessC]
    rw [this]
    exact EvS.neg (by have := h.ge; omega) K
  | cons y ys ih =>
    intro j less h h0 h1 h2
    have g0 := h.nonneg
    have g1 := h.lt
    refine EvS.step (fun k => by rw [spec_rank.l1]) ?_
    rw [At.rd h, hx, w64 (x := j + 1) (by omega) (by omega), w64 (x := less + 1) (by omega) (by omega)]
    rw [lessC_cons] at h2
    refine EvS.pos h.lt (EvS.pos h.nonneg (EvS.pos hi.1 (EvS.pos hi.2 (EvS.ite (fun c => ?_) (fun c => ?_)))))
    · rw [if_pos c] at h2
      exact ih (j + 1) (less + 1) h.next (by omega) (by omega) (by omega)
    · rw [if_neg c] at h2
      exact ih (j + 1) less h.next (by omega) (by omega) (by omega)
theorem spec_rank_l0 (l : List Int) (hl : l.length ≤ 8) (ys : List Int) : ∀ (i rank : Int), At l i ys → 0 ≤ rank → rank * fac ys.length + rankL ys = rankL l → EvS (fun k => spec_rank.l0 k l rank i) (· = rankL l) := by
  have hb := rankL_range l
  have hf9 := fac_9 l.length (by omega)
  induction ys with
  | nil =>
    intro i rank h h0 h1
    refine EvS.step (fun k => by rw [spec_rank.l0]) ?_
    exact EvS.neg (by have := h.ge; omega) (EvS.now (by rw [← h1]; simp [rankL, fac]))
  | cons y ys ih =>
    intro i rank h h0 h1
    have g0 := h.nonneg
    have g1 := h.lt
    have g2 := h.len
    rw [List.length_cons] at g2
    have hw : wrap64 (i + 1) = i + 1 := w64 (by omega) (by omega)
    have hr := rankL_range ys
    have hlc := lessC_range y ys
    have hfp := fac_pos ys.length
    have hlen : (l.length : Int) - i = (ys.length : Int) + 1 := by omega
    simp only [rankL, List.length_cons, fac] at h1
    rw [← Int.mul_assoc] at h1
    have e2 : (rank * ((ys.length : Int) + 1) + lessC y ys) * fac ys.length + rankL ys = rankL l := by rw [Int.add_mul]; omega
    have hm0 : 0 ≤ rank * ((ys.length : Int) + 1) := Int.mul_nonneg h0 (by omega)
    have hbig : rank * ((ys.length : Int) + 1) + lessC y ys ≤ (rank * ((ys.length : Int) + 1) + lessC y ys) * fac ys.length := by
      have := Int.mul_le_mul_of_nonneg_left hfp (show 0 ≤ rank * ((ys.length : Int) + 1) + lessC y ys by omega)
      rwa [Int.mul_one] at this
    refine EvS.step (fun k => by rw [spec_rank.l0]) ?_
    rw [hw]
    refine EvS.pos h.lt (spec_rank_l1 l hl rank i y ⟨g0, g1⟩ (At.rd h) (lessC y ys) ?_ ys (i + 1) 0 h.next (by omega) (by omega) (by omega))
    rw [hw, hlen, w64 (x := (ys.length : Int) + 1) (by omega) (by omega), w64 (x := rank * ((ys.length : Int) + 1)) (by omega) (by omega), w64 (x := rank * ((ys.length : Int) + 1) + lessC y ys) (by omega) (by omega)]
    exact ih (i + 1) _ h.next (by omega) e2
theorem spec_RankOrder_ok (l : List Int) (hl : l.length ≤ 2000000) : EvS (fun k => spec_RankOrder.f k l) (· = rankO l) := by
  have no : ¬ VOrd l → EvS (fun _ => some (-1 : Int)) (· = rankO l) := fun g => EvS.now (by unfold rankO; rw [if_neg g])
  simp only [spec_RankOrder.f]
  refine EvS.bindv (spec_validOrder_ok l hl) (EvS.ite (fun c => EvS.ite (fun d => no (fun g => by have := g.1; omega)) (fun d => ?_)) (fun c => no (fun g => ndec c ⟨by have := g.1; omega, g.2⟩)))
  have c := of_decide_eq_true c
  have hv : VOrd l := ⟨by have := c.1; omega, c.2⟩
  unfold rankO
  rw [if_pos hv]
  refine EvS.bindv (a := rankL l) ?_ (EvS.now rfl)
  simp only [spec_rank.f]
  exact spec_rank_l0 l hv.1.2 l 0 0 (At.zero _) (by omega) (by omega)
theorem copy_eq (l : List Int) (h : l.length ≤ 4000000) : spec_copyInts.f l = some l := by
  unfold spec_copyInts.f
  simp only [Option.bind_some, List.length_nil, List.nil_append]
  rw [if_pos (by omega)]
theorem turns_l0 (b : List Int) (hb : BytesOk b) (n : Int) (hn : n ≤ 12) (d : Nat) : ∀ (i p : Int) (out : List Int), i + d = n → 0 ≤ i → (out.length : Int) = i → 0 ≤ p → p + d ≤ 1000 →
    EvS (fun k => spec_turns.l0 k n out i b p) (fun r => (r.1.length : Int) = n ∧ 0 ≤ r.2 ∧ r.2 ≤ p + d) := by
  induction d with
  | zero =>
    intro i p out h1 h2 h3 h4 h5
    refine EvS.step (fun k => by rw [spec_turns.l0]) ?_
    exact EvS.neg (by omega) (EvS.now ⟨by dsimp only; omega, h4, by dsimp only; omega⟩)
  | succ d ih =>
    intro i p out h1 h2 h3 h4 h5
    refine EvS.step (fun k => by rw [spec_turns.l0]) ?_
    rw [w64 (x := (out.length : Int) + 1) (by omega) (by omega), w64 (x := i + 1) (by omega) (by omega)]
    refine EvS.pos (by omega) ?_
    refine EvS.bind (pick_ok _ _ _ hb (by omega) (by omega)) ?_
    rintro ⟨v1, _⟩ ⟨v1_0, v1_1, v1_2, rfl⟩
    dsimp only at v1_0 v1_1 v1_2 ⊢
    have v1_r := v1_1 (by omega)
    refine EvS.pos v1_0 (EvS.pos (by omega) (EvS.call (copy_eq _ (by rw [List.length_drop]; omega)) (EvS.onsome (EvS.pos (by rw [List.length_take]; omega) (EvS.onsome (EvS.pos (by simp; omega) ?_))))))
    refine EvS.mono (ih (i + 1) _ _ (by omega) (by omega) (by simp; omega) (by omega) (by omega)) (fun r hr => ⟨hr.1, hr.2.1, by omega⟩)
theorem draw_ok (l : List Int) (hl : ∀ x ∈ l, 0 ≤ x ∧ x ≤ 255) : EvS (fun k => spec_DrawRankOrder.f k l) (fun r => r.length ≤ 12) := by
  simp only [spec_DrawRankOrder.f]
  obtain ⟨b, be, hb⟩ := newReader_ok l hl
  refine EvS.call be ?_
  dsimp only
  refine EvS.bind (Q := fun r => r.1.length ≤ 12) ?_ (fun r hr => EvS.now hr)
  simp only [spec_anyOrder.f]
  refine EvS.bind (one_ok _ _ _ hb (by omega) (by omega) (by simp)) ?_
  rintro ⟨v1, _⟩ ⟨v1_m, rfl⟩
  dsimp only at v1_m ⊢
  have hm : 1 ≤ v1 ∧ v1 ≤ 12 := by simp at v1_m; omega
  simp only [spec_turns.f]
  refine EvS.bind (turns_l0 b hb v1 hm.2 v1.toNat 0 _ [] (by omega) (by omega) rfl (by omega) (by omega)) ?_
  rintro ⟨o, q⟩ ⟨g1, g2, g3⟩
  dsimp only at g1 g2 g3 ⊢
  rw [w64 (x := (o.length : Int) - 1) (by omega) (by omega)]
  refine EvS.bind (pick_ok _ _ _ hb (by omega) (by omega)) ?_
  rintro ⟨v2, _⟩ ⟨v2_0, v2_1, v2_2, rfl⟩
  dsimp only at v2_0 v2_1 v2_2 ⊢
  refine EvS.ite (fun _ => EvS.pos (by omega) (EvS.pos (by omega) ?_)) (fun _ => EvS.ite (fun _ => EvS.now (by simp)) (fun _ => EvS.now (by dsimp only; omega)))
  refine EvS.bind (one_ok _ _ _ hb (by omega) (by omega) (by simp)) ?_
  rintro ⟨v3, _⟩ ⟨v3_m, rfl⟩
  dsimp only at v3_m ⊢
  exact EvS.pos (by omega) (EvS.now (by simp; omega))
/-- The order with each number taken from the last one. -/
def mir (m : Int) (l : List Int) : List Int := l.map (fun x => m - x)
theorem lessC_mir (m x : Int) (xs : List Int) (h : x ∉ xs) : lessC (m - x) (mir m xs) = (xs.length : Int) - lessC x xs := by
  induction xs with
  | nil => simp [mir, lessC]
  | cons y ys ih =>
    have h1 : x ≠ y ∧ x ∉ ys := by simpa using h
    have ih := ih h1.2
    show lessC (m - x) ((m - y) :: mir m ys) = _
    rw [lessC_cons, lessC_cons, ih, List.length_cons]
    by_cases c : y < x
    · rw [if_neg (by omega), if_pos c]; omega
    · rw [if_pos (by omega), if_neg c]; omega
theorem rank_mir (m : Int) (l : List Int) (h : l.Nodup) : rankL (mir m l) = fac l.length - 1 - rankL l := by
  induction l with
  | nil => simp [mir, rankL, fac]
  | cons x xs ih =>
    have h1 := List.nodup_cons.1 h
    have ih := ih h1.2
    show rankL ((m - x) :: mir m xs) = _
    have hl : (mir m xs).length = xs.length := by simp [mir]
    simp only [rankL, List.length_cons, fac]
    rw [lessC_mir m x xs h1.1, hl, ih, Int.sub_mul, Int.add_mul]
    omega
theorem mir_valid {l : List Int} (h : VOrd l) : VOrd (mir ((l.length : Int) - 1) l) := by
  have hl : (mir ((l.length : Int) - 1) l).length = l.length := by simp [mir]
  refine ⟨by rw [hl]; exact h.1, ?_, fun x hx => ?_⟩
  · exact List.Pairwise.map _ (fun a b (e : a ≠ b) => by omega) h.2.1
  · obtain ⟨y, hy, rfl⟩ := List.mem_map.1 hx
    have := h.2.2 y hy
    rw [hl]
    omega
theorem law_l0 (l : List Int) (hv : VOrd l) (ys : List Int) : ∀ (i : Int) (out : List Int), At l i ys → out ++ mir ((l.length : Int) - 1) ys = mir ((l.length : Int) - 1) l → out.length ≤ i →
    EvS (fun k => laws_FnRankOrder.l0 k l (rankL l) (fac l.length) out i) (· = true) := by
  have hl := hv.1
  have hr := rankL_range l
  have hf9 := fac_9 l.length (by omega)
  induction ys with
  | nil =>
    intro i out h e ho
    refine EvS.step (fun k => by rw [laws_FnRankOrder.l0]) ?_
    have hmv := mir_valid hv
    have e' : out = mir ((l.length : Int) - 1) l := by rw [← e]; simp [mir]
    have ho1 : orderAt (rankL l) l.length = l := by
      unfold orderAt
      rw [if_pos ⟨by omega, hr.1, by rw [Int.toNat_natCast]; exact hr.2⟩, Int.toNat_natCast]
      exact ord_rank l.length l _ (ord_perm hv) (upsL_len _ _) (upsL_asc _ _)
    have hi := impl_OrderAt_ok (rankL l) l.length
    rw [ho1] at hi
    refine EvS.neg (by have := h.ge; omega) (EvS.pos hr.2 (EvS.bindv hi (EvS.bindv (equalInts_ok l (by omega)) (EvS.pos rfl ?_))))
    rw [e']
    refine EvS.bindv (impl_RankOrder_ok _ (by simp [mir]; omega)) (EvS.now ?_)
    rw [w64 (x := fac l.length - 1) (by omega) (by omega), w64 (x := fac l.length - 1 - rankL l) (by omega) (by omega)]
    unfold rankO
    rw [if_pos hmv, rank_mir _ l hv.2.1]
    simp
  | cons y ys ih =>
    intro i out h e ho
    have h1 := h.lt
    have h0 := h.nonneg
    have hy := hv.2.2 y h.mem
    refine EvS.step (fun k => by rw [laws_FnRankOrder.l0]) ?_
    rw [At.rd h, w64 (x := i + 1) (by omega) (by omega), w64 (x := (l.length : Int) - 1) (by omega) (by omega), w64 (x := (l.length : Int) - 1 - y) (by omega) (by omega)]
    refine EvS.pos h.lt (EvS.pos h.nonneg (EvS.pos (by omega) (ih (i + 1) _ h.next ?_ (by simp; omega))))
    rw [← e]
    simp [mir]
theorem FnRankOrder : laws_FnRankOrder.Pure := by
  intro l0 _ _ hw
  refine EvS.holds ?_
  simp only [laws_FnRankOrder.f]
  refine EvS.ite (fun _ => EvS.now rfl) (fun _ => ?_)
  refine EvS.bind (draw_ok l0 (fun x hx => u8_range (hw x hx))) (fun l hl => ?_)
  refine EvS.bindv (impl_RankOrder_ok l (by omega)) (EvS.bindv (spec_RankOrder_ok l (by omega)) (EvS.pos rfl ?_))
  by_cases hv : VOrd l
  · have hr := rankL_range l
    have e : rankO l = rankL l := by unfold rankO; rw [if_pos hv]
    have hn := hv.1
    rw [e, decide_eq_false (by omega)]
    refine EvS.step (fun k => by rw [laws_FnRankOrder.j0]) ?_
    exact EvS.neg (by simp) (EvS.bindv (laws_factorial_ok l.length (by omega)) (law_l0 l hv l 0 [] (At.zero _) rfl (by simp)))
  · have e : rankO l = -1 := by unfold rankO; rw [if_neg hv]
    rw [decide_eq_true (by omega)]
    refine EvS.step (fun k => by rw [laws_FnRankOrder.j0]) ?_
    exact EvS.pos rfl (EvS.bindv (spec_RankOrder_ok l (by omega)) (EvS.now (by simp)))
end Go.Proofs.Ytcnhjpnidfalpaa.Pure
