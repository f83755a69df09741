/- Of CutAndChoose the one who chooses gets at least half by its values, and the one who cuts no less than the other pile, less the difference of TwoPiles; and CutAndChoose is what the reference tells: for every code. Conditions: none. -/
import Derived.Test.YtjfelimfppcgmaaPFnCutAndChoosex0
import Derived.Test.YtjfelimfppcgmaaMFnCutAndChoosex1
import Derived.Test.YtjfelimfppcgmaaMFnCutAndChoosex2
import Derived.Test.YtjfelimfppcgmaaMFnCutAndChoosex3
import Derived.Test.YtjfelimfppcgmaaMFnCutAndChoosex4
import Derived.Test.YtjfelimfppcgmaaMFnCutAndChoosex5
import Derived.Test.YtjfelimfppcgmaaBase
set_option linter.unusedVariables false
set_option linter.unusedSimpArgs false
namespace Go.Proofs.Ytjfelimfppcgmaa.Pure
open Go.RowKit Go.Proofs.Ytjfelimfppcgmaa.PFnCutAndChoose Go.Proofs.YtjfelimfppcgmaaW.PrintWords Go.Proofs.YtjfelimfppcgmaaW.PrintLast Go.Proofs.YtjfelimfppcgmaaW.PrintMore Go.Proofs.Ytjfelimfppcgmaa.Base
theorem u8_range {x : Int} (h : (Lit.int .u8 x).wf = true) : 0 ≤ x ∧ x ≤ 255 := by
  simp [Lit.wf, IntKind.min, IntKind.max, IntKind.bits, IntKind.signed] at h
  omega
/-! ## The reader that draws. -/
structure BytesOk (b : List Int) : Prop where
  len : b.length ≤ 2000
  mem : ∀ x ∈ b, 0 ≤ x ∧ x ≤ 255

theorem newReader_ok (l : List Int) (h : ∀ x ∈ l, 0 ≤ x ∧ x ≤ 255) : ∃ b, spec_newReader.f l = some (b, 0) ∧ BytesOk b := by
  unfold spec_newReader.f
  by_cases c : (l.length : Int) > 2000
  · rw [if_pos c, if_pos (by omega)]
    exact ⟨_, rfl, by rw [List.length_take]; omega, fun x hx => h x (List.mem_of_mem_take hx)⟩
  · rw [if_neg c]
    exact ⟨_, rfl, by omega, h⟩

theorem pick_ok (b : List Int) (p n : Int) (hb : BytesOk b) (h0 : 0 ≤ p) (h1 : p ≤ 100000) :
    EvS (fun k => spec_reader_pick.f k b p n) (fun r => 0 ≤ r.1 ∧ (1 ≤ n → r.1 < n) ∧ (n < 1 → r.1 = 0) ∧ r.2 = p + 1) := by
  have hp : wrap64 (p + 1) = p + 1 := w64 (by omega) (by omega)
  have hq : wrap64 (p + 1 - 1) = p := by rw [show p + 1 - 1 = p by omega]; exact w64 (by omega) (by omega)
  have hbl := hb.len
  simp only [spec_reader_pick.f]
  rw [hp]
  by_cases hn : n < 1
  · refine EvS.pos hn ?_
    refine EvS.step (fun k => by rw [spec_reader_pick.j0]) ?_
    refine EvS.pos rfl ?_
    exact EvS.now ⟨by simp, fun h => by omega, fun _ => rfl, rfl⟩
  · refine EvS.neg hn ?_
    refine EvS.step (fun k => by rw [spec_reader_pick.j0]) ?_
    simp only [hq]
    by_cases hl : b.length = 0
    · refine EvS.pos (by simp [hl]) ?_
      exact EvS.now ⟨by simp, fun h => by simp; omega, fun _ => rfl, rfl⟩
    · refine EvS.neg (by simp; intro h; exact hl (by simp [h])) ?_
      by_cases hpl : p < b.length
      · refine EvS.pos hpl (EvS.pos h0 (EvS.neg (by omega) ?_))
        have hr := rd_range hb.mem p h0 hpl
        rw [w64 (by omega) (by omega)]
        have ht := tmod_range (rd b p) n (by omega) (by omega)
        exact EvS.now ⟨ht.1, fun _ => ht.2, fun h => by omega, rfl⟩
      · refine EvS.neg hpl (EvS.neg (by omega) ?_)
        have e1 : wrap64 (wrap64 (p * 7) + 3) = p * 7 + 3 := by
          rw [w64 (x := p * 7) (by omega) (by omega)]; exact w64 (by omega) (by omega)
        simp only [e1]
        have i1 := tmod_range p b.length h0 (by omega)
        have i2 := tmod_range (p * 7 + 3) b.length (by omega) (by omega)
        refine EvS.pos i1.1 (EvS.pos i1.2 (EvS.pos i2.1 (EvS.pos i2.2 (EvS.neg (by omega) ?_))))
        have r1 := rd_range hb.mem _ i1.1 i1.2
        have r2 := rd_range hb.mem _ i2.1 i2.2
        generalize rd b (Int.tmod p b.length) = v1 at r1 ⊢
        generalize rd b (Int.tmod (p * 7 + 3) b.length) = v2 at r2 ⊢
        have d0 : 0 ≤ Int.tdiv p b.length ∧ Int.tdiv p b.length ≤ p := by
          rw [tdiv_pos _ _ h0]
          exact ⟨Int.ediv_nonneg h0 (by omega), Int.ediv_le_self _ h0⟩
        generalize Int.tdiv p b.length = dv at d0 ⊢
        simp (disch := omega) only [w64]
        have hx0 : 0 ≤ v1 * 131 + v2 * 1117 + p * 29 + dv * 53 := by omega
        have hx1 : v1 * 131 + v2 * 1117 + p * 29 + dv * 53 < 1000000000 := by omega
        generalize v1 * 131 + v2 * 1117 + p * 29 + dv * 53 = X at hx0 hx1 ⊢
        rw [tdiv_pos X 64 hx0, w64 (x := X / 64) (by omega) (by omega)]
        have ht := tmod_range (Go.bits .xor .i64 X (X / 64)) n (xor_nonneg _ _ (by omega) (by omega) (by omega) (by omega)) (by omega)
        exact EvS.now ⟨ht.1, fun _ => ht.2, fun h => by omega, rfl⟩

theorem one_ok (b : List Int) (p : Int) (l : List Int) (hb : BytesOk b) (h0 : 0 ≤ p) (h1 : p ≤ 100000) (hl : 1 ≤ l.length) :
    EvS (fun k => spec_reader_one.f k b p l) (fun r => r.1 ∈ l ∧ r.2 = p + 1) := by
  simp only [spec_reader_one.f]
  refine EvS.bind (pick_ok b p l.length hb h0 h1) ?_
  rintro ⟨v, q⟩ ⟨a1, a2, a3, a4⟩
  have a5 := a2 (by omega)
  refine EvS.pos a1 (EvS.pos a5 ?_)
  exact EvS.now ⟨rd_mem _ a1 a5, a4⟩
/-! ## Lists of numbers. -/
theorem inRange_eq (n lo hi : Int) : spec_inRange.f n lo hi = some (decide (lo ≤ n ∧ n ≤ hi)) := by
  unfold spec_inRange.f
  split
  · exact congrArg some (decide_eq_decide.2 (by omega))
  · exact congrArg some (decide_eq_false (by omega)).symm
def AllW (xs : List Int) (lo hi : Int) : Prop := ∀ x ∈ xs, lo ≤ x ∧ x ≤ hi
instance (xs : List Int) (lo hi : Int) : Decidable (AllW xs lo hi) := by unfold AllW; infer_instance
theorem allW_cons (y : Int) (ys : List Int) (lo hi : Int) : AllW (y :: ys) lo hi ↔ (lo ≤ y ∧ y ≤ hi) ∧ AllW ys lo hi := by
  unfold AllW; simp
theorem allWithin_l0 (xs : List Int) (hl : xs.length ≤ 1099511627776) (lo hi : Int) (ys : List Int) : ∀ i : Int, At xs i ys → EvS (fun k => impl_allWithin.l0 k lo hi xs xs.length i) (· = decide (AllW ys lo hi)) := by
  induction ys with
  | nil =>
    intro i h
    refine EvS.step (fun k => by rw [impl_allWithin.l0]) ?_
    exact EvS.neg (by have := h.ge; omega) (EvS.now (by simp [AllW]))
  | cons y ys ih =>
    intro i h
    refine EvS.step (fun k => by rw [impl_allWithin.l0]) ?_
    refine EvS.pos h.lt (EvS.pos h.nonneg (EvS.pos h.lt ?_))
    rw [At.rd h]
    refine EvS.ite (fun c => EvS.now (decide_eq_false (fun g => by have := (allW_cons _ _ _ _).1 g; omega)).symm) (fun c1 => EvS.ite (fun c => EvS.now (decide_eq_false (fun g => by have := (allW_cons _ _ _ _).1 g; omega)).symm) (fun c2 => ?_))
    refine EvS.mono (ih _ (h.wnext (by omega))) (fun r hr => ?_)
    rw [hr]
    exact decide_eq_decide.2 ⟨fun g => (allW_cons _ _ _ _).2 ⟨by omega, g⟩, fun g => ((allW_cons _ _ _ _).1 g).2⟩
theorem allWithin_ok (xs : List Int) (hl : xs.length ≤ 1099511627776) (lo hi : Int) : EvS (fun k => impl_allWithin.f k xs lo hi) (· = decide (AllW xs lo hi)) := by
  simp only [impl_allWithin.f]
  exact allWithin_l0 xs hl lo hi xs 0 (At.zero xs)
theorem allIn_l0 (xs : List Int) (hl : xs.length ≤ 1099511627776) (lo hi : Int) (ys : List Int) : ∀ i : Int, At xs i ys → EvS (fun k => spec_allIn.l0 k xs lo hi i) (· = decide (AllW ys lo hi)) := by
  induction ys with
  | nil =>
    intro i h
    refine EvS.step (fun k => by rw [spec_allIn.l0]) ?_
    exact EvS.neg (by have := h.ge; omega) (EvS.now (by simp [AllW]))
  | cons y ys ih =>
    intro i h
    refine EvS.step (fun k => by rw [spec_allIn.l0]) ?_
    refine EvS.pos h.lt (EvS.pos h.nonneg ?_)
    rw [At.rd h]
    refine EvS.call (inRange_eq _ _ _) (EvS.ite (fun c => ?_) (fun c => EvS.now ?_))
    · have c := of_decide_eq_true c
      refine EvS.mono (ih _ (h.wnext (by omega))) (fun r hr => ?_)
      rw [hr]
      exact decide_eq_decide.2 ⟨fun g => (allW_cons _ _ _ _).2 ⟨by omega, g⟩, fun g => ((allW_cons _ _ _ _).1 g).2⟩
    · have c := ndec c
      exact (decide_eq_false (fun g => c ((allW_cons _ _ _ _).1 g).1)).symm
theorem allIn_ok (xs : List Int) (hl : xs.length ≤ 1099511627776) (lo hi : Int) : EvS (fun k => spec_allIn.f k xs lo hi) (· = decide (AllW xs lo hi)) := by
  simp only [spec_allIn.f]
  exact allIn_l0 xs hl lo hi xs 0 (At.zero xs)
/-- The first place of a number, counted from i on; -1 if it is not there. -/
def posF (v : Int) : Int → List Int → Int
  | _, [] => -1
  | i, x :: xs => if x = v then i else posF v (i + 1) xs
theorem posF_range (v : Int) (xs : List Int) : ∀ i : Int, 0 ≤ i → (v ∈ xs → i ≤ posF v i xs ∧ posF v i xs < i + xs.length) ∧ (v ∉ xs → posF v i xs = -1) := by
  induction xs with
  | nil => intro i h0; exact ⟨fun h => by simp at h, fun _ => rfl⟩
  | cons x xs ih =>
    intro i h0
    have h := ih (i + 1) (by omega)
    simp only [posF, List.length_cons]
    by_cases c : x = v
    · rw [if_pos c]; exact ⟨fun _ => by omega, fun g => absurd (by simp [c]) g⟩
    · rw [if_neg c]
      refine ⟨fun g => ?_, fun g => h.2 (fun g2 => g (List.mem_cons_of_mem _ g2))⟩
      have := h.1 ((List.mem_cons.1 g).resolve_left (fun e => c e.symm))
      omega
theorem posF_nonneg (v : Int) (xs : List Int) (i : Int) (h : 0 ≤ i) : (0 ≤ posF v i xs) ↔ v ∈ xs := by
  by_cases c : v ∈ xs
  · have := (posF_range v xs i h).1 c; exact ⟨fun _ => c, fun _ => by omega⟩
  · have := (posF_range v xs i h).2 c; exact ⟨fun g => by omega, fun g => absurd g c⟩
theorem equalInts_l0 (xs : List Int) (hl : xs.length ≤ 1099511627776) (ys : List Int) : ∀ i : Int, At xs i ys → EvS (fun k => laws_equalInts.l0 k xs xs i) (· = true) := by
  induction ys with
  | nil =>
    intro i h
    refine EvS.step (fun k => by rw [laws_equalInts.l0]) ?_
    exact EvS.neg (by have := h.ge; omega) (EvS.now rfl)
  | cons y ys ih =>
    intro i h
    refine EvS.step (fun k => by rw [laws_equalInts.l0]) ?_
    exact EvS.pos h.lt (EvS.pos h.nonneg (EvS.pos h.lt (EvS.pos (by simp) (ih _ (h.wnext (by omega))))))
theorem equalInts_ok (xs : List Int) (hl : xs.length ≤ 1099511627776) : EvS (fun k => laws_equalInts.f k xs xs) (· = true) := by
  simp only [laws_equalInts.f]
  exact EvS.pos (by trivial) (equalInts_l0 xs hl xs 0 (At.zero xs))
/-- Different numbers from 0 to n - 1. -/
def Diff (xs : List Int) (n : Int) : Prop := xs.Nodup ∧ ∀ x ∈ xs, 0 ≤ x ∧ x < n
instance (xs : List Int) (n : Int) : Decidable (Diff xs n) := by unfold Diff; infer_instance
def DiffF (pre ys : List Int) (n : Int) : Prop := ys.Nodup ∧ ∀ y ∈ ys, 0 ≤ y ∧ y < n ∧ y ∉ pre
instance (pre ys : List Int) (n : Int) : Decidable (DiffF pre ys n) := by unfold DiffF; infer_instance
theorem diffF_cons (pre : List Int) (y : Int) (ys : List Int) (n : Int) : DiffF pre (y :: ys) n ↔ (0 ≤ y ∧ y < n ∧ y ∉ pre) ∧ DiffF (y :: pre) ys n := by
  unfold DiffF
  constructor
  · rintro ⟨h1, h2⟩
    have h1 := List.nodup_cons.1 h1
    refine ⟨h2 y List.mem_cons_self, h1.2, fun z hz => ?_⟩
    have := h2 z (List.mem_cons_of_mem _ hz)
    refine ⟨this.1, this.2.1, fun hm => ?_⟩
    rcases List.mem_cons.1 hm with rfl | hm
    · exact h1.1 hz
    · exact this.2.2 hm
  · rintro ⟨h1, h2, h3⟩
    refine ⟨List.nodup_cons.2 ⟨fun hm => (h3 y hm).2.2 List.mem_cons_self, h2⟩, fun z hz => ?_⟩
    rcases List.mem_cons.1 hz with rfl | hz
    · exact h1
    · have := h3 z hz
      exact ⟨this.1, this.2.1, fun hm => this.2.2 (List.mem_cons_of_mem _ hm)⟩
theorem diffF_congr {p q ys : List Int} {n : Int} (h : ∀ x, x ∈ p ↔ x ∈ q) : DiffF p ys n ↔ DiffF q ys n := by
  unfold DiffF
  simp only [h]
theorem diffF_nil (xs : List Int) (n : Int) : DiffF [] xs n ↔ Diff xs n := by
  unfold DiffF Diff; simp
theorem diff_len {xs : List Int} {n : Int} (h : Diff xs n) : (xs.length : Int) ≤ n ∨ xs = [] := by
  rcases xs with _ | ⟨x, xs⟩
  · exact .inr rfl
  · left
    have h1 : 0 ≤ n := by have := h.2 x List.mem_cons_self; omega
    have h2 : (x :: xs) ⊆ (List.range n.toNat).map (fun m : Nat => (m : Int)) := by
      intro y hy
      have := h.2 y hy
      exact List.mem_map.2 ⟨y.toNat, List.mem_range.2 (by omega), by omega⟩
    have h3 := h.1.length_le_of_subset h2
    rw [List.length_map, List.length_range] at h3
    omega
/-! ## Bodies that vote. -/
def tot : List Int → Int
  | [] => 0
  | x :: xs => x + tot xs
theorem tot_range {xs : List Int} {hi : Int} (h0 : 0 ≤ hi) (h : AllW xs 0 hi) : 0 ≤ tot xs ∧ tot xs ≤ xs.length * hi := by
  induction xs with
  | nil => simp [tot]
  | cons x xs ih =>
    have h1 := (allW_cons _ _ _ _).1 h
    have h2 := ih h1.2
    simp only [tot, List.length_cons, Int.natCast_add, Int.add_mul]
    omega
theorem tot_bound {xs : List Int} (h : ∀ x ∈ xs, -1000000000000 ≤ x ∧ x ≤ 1000000000000) : -(1000000000000 * (xs.length : Int)) ≤ tot xs ∧ tot xs ≤ 1000000000000 * xs.length := by
  induction xs with
  | nil => simp [tot]
  | cons x xs ih =>
    have h1 := h x List.mem_cons_self
    have h2 := ih (fun y hy => h y (List.mem_cons_of_mem _ hy))
    simp only [tot, List.length_cons]
    omega
theorem spec_total_l0 (xs : List Int) (hl : xs.length ≤ 1000) (hx : ∀ x ∈ xs, -1000000000000 ≤ x ∧ x ≤ 1000000000000) (ys : List Int) : ∀ (i acc : Int), At xs i ys → acc + tot ys = tot xs → EvS (fun k => spec_total.l0 k xs acc i) (· = tot xs) := by
  induction ys with
  | nil =>
    intro i acc h e
    refine EvS.step (fun k => by rw [spec_total.l0]) ?_
    exact EvS.neg (by have := h.ge; omega) (EvS.now (by simp [tot] at e; exact e))
  | cons y ys ih =>
    intro i acc h e
    have h1 := h.len
    have h2 := h.nonneg
    have b1 := tot_bound hx
    have b2 := tot_bound (xs := ys) (fun z hz => hx z (h.sub z (List.mem_cons_of_mem _ hz)))
    have b3 := hx y h.mem
    simp only [tot, List.length_cons] at e h1
    refine EvS.step (fun k => by rw [spec_total.l0]) ?_
    refine EvS.pos h.lt (EvS.pos h.nonneg ?_)
    rw [At.rd h, w64 (x := acc + y) (by omega) (by omega)]
    exact ih _ _ (h.wnext (by omega)) (by omega)
theorem spec_total_ok (xs : List Int) (hl : xs.length ≤ 1000) (hx : ∀ x ∈ xs, -1000000000000 ≤ x ∧ x ≤ 1000000000000) : EvS (fun k => spec_total.f k xs) (· = tot xs) := by
  simp only [spec_total.f]
  exact spec_total_l0 xs hl hx xs 0 0 (At.zero _) (by omega)
theorem laws_total_l0 (xs : List Int) (hl : xs.length ≤ 1000) (hx : ∀ x ∈ xs, -1000000000000 ≤ x ∧ x ≤ 1000000000000) (ys : List Int) : ∀ (i acc : Int), At xs i ys → acc + tot ys = tot xs → EvS (fun k => laws_total.l0 k xs acc i) (· = tot xs) := by
  induction ys with
  | nil =>
    intro i acc h e
    refine EvS.step (fun k => by rw [laws_total.l0]) ?_
    exact EvS.neg (by have := h.ge; omega) (EvS.now (by simp [tot] at e; exact e))
  | cons y ys ih =>
    intro i acc h e
    have h1 := h.len
    have h2 := h.nonneg
    have b1 := tot_bound hx
    have b2 := tot_bound (xs := ys) (fun z hz => hx z (h.sub z (List.mem_cons_of_mem _ hz)))
    have b3 := hx y h.mem
    simp only [tot, List.length_cons] at e h1
    refine EvS.step (fun k => by rw [laws_total.l0]) ?_
    refine EvS.pos h.lt (EvS.pos h.nonneg ?_)
    rw [At.rd h, w64 (x := acc + y) (by omega) (by omega)]
    exact ih _ _ (h.wnext (by omega)) (by omega)
theorem laws_total_ok (xs : List Int) (hl : xs.length ≤ 1000) (hx : ∀ x ∈ xs, -1000000000000 ≤ x ∧ x ≤ 1000000000000) : EvS (fun k => laws_total.f k xs) (· = tot xs) := by
  simp only [laws_total.f]
  exact laws_total_l0 xs hl hx xs 0 0 (At.zero _) (by omega)
theorem sumOf_l0 (xs : List Int) (hl : xs.length ≤ 1000) (hx : ∀ x ∈ xs, -1000000000000 ≤ x ∧ x ≤ 1000000000000) (ys : List Int) : ∀ (i acc : Int), At xs i ys → acc + tot ys = tot xs → EvS (fun k => impl_sumOf.l0 k acc xs xs.length i) (· = tot xs) := by
  induction ys with
  | nil =>
    intro i acc h e
    refine EvS.step (fun k => by rw [impl_sumOf.l0]) ?_
    exact EvS.neg (by have := h.ge; omega) (EvS.now (by simp [tot] at e; exact e))
  | cons y ys ih =>
    intro i acc h e
    have h1 := h.len
    have h2 := h.nonneg
    have b1 := tot_bound hx
    have b2 := tot_bound (xs := ys) (fun z hz => hx z (h.sub z (List.mem_cons_of_mem _ hz)))
    have b3 := hx y h.mem
    simp only [tot, List.length_cons] at e h1
    refine EvS.step (fun k => by rw [impl_sumOf.l0]) ?_
    refine EvS.pos h.lt (EvS.pos h.nonneg (EvS.pos h.lt ?_))
    rw [At.rd h, w64 (x := acc + y) (by omega) (by omega)]
    exact ih _ _ (h.wnext (by omega)) (by omega)
theorem sumOf_ok (xs : List Int) (hl : xs.length ≤ 1000) (hx : ∀ x ∈ xs, -1000000000000 ≤ x ∧ x ≤ 1000000000000) : EvS (fun k => impl_sumOf.f k xs) (· = tot xs) := by
  simp only [impl_sumOf.f]
  exact sumOf_l0 xs hl hx xs 0 0 (At.zero _) (by omega)
/-! ## Piles: sets as numbers. -/
theorem and_one (v : Int) (h0 : 0 ≤ v) (h1 : v < 9223372036854775808) : Go.bits .and .i64 v 1 = v % 2 := by
  obtain ⟨m, rfl⟩ := Int.eq_ofNat_of_zero_le h0
  have e1 : (BitVec.ofInt 64 (m : Int)).toNat = m := by
    rw [BitVec.ofInt_natCast, BitVec.toNat_ofNat]; exact Nat.mod_eq_of_lt (by omega)
  have e2 : (BitVec.ofInt 64 (1 : Int)).toNat = 1 := by decide
  show IntKind.i64.wrap ((BitVec.ofInt 64 (m : Int) &&& BitVec.ofInt 64 (1 : Int)).toNat : Int) = _
  rw [BitVec.toNat_and, e1, e2, Nat.and_one_is_mod]
  simp only [IntKind.wrap, IntKind.bits, IntKind.signed]
  simp
  omega
def memF : Nat → Int → Int → List Int
  | 0, _, _ => []
  | d + 1, i, s => if s > 0 then (if s % 2 = 1 then i :: memF d (i + 1) (s / 2) else memF d (i + 1) (s / 2)) else []
def bs : List Int → Int → Int
  | [], _ => 0
  | v :: vs, s => (if s % 2 = 1 then v else 0) + bs vs (s / 2)
def wsm (ws : List Int) : List Int → Int
  | [] => 0
  | m :: ms => rd ws m + wsm ws ms
def bitAt : Nat → Int → Bool
  | 0, s => decide (s % 2 = 1)
  | j + 1, s => bitAt j (s / 2)
def pw : Nat → Int
  | 0 => 1
  | n + 1 => 2 * pw n
theorem pw_pos (n : Nat) : 1 ≤ pw n := by
  induction n with
  | zero => simp [pw]
  | succ n ih => simp only [pw]; omega
theorem pw_eq (n : Nat) : pw n = 2 ^ n := by
  induction n with
  | zero => rfl
  | succ n ih => rw [pw, ih, Int.pow_succ, Int.mul_comm]
theorem pw_mono {m n : Nat} (h : m ≤ n) : pw m ≤ pw n := by
  induction n with
  | zero => rw [show m = 0 by omega]; exact Int.le_refl _
  | succ n ih =>
    by_cases e : m = n + 1
    · subst e; exact Int.le_refl _
    · have := ih (by omega)
      have := pw_pos n
      simp only [pw]; omega
theorem bs_zero (vs : List Int) : bs vs 0 = 0 := by
  induction vs with
  | nil => rfl
  | cons v vs ih => rw [bs]; simp [ih]
theorem bitAt_zero (j : Nat) : bitAt j 0 = false := by
  induction j with
  | zero => rfl
  | succ j ih => rw [bitAt]; simpa using ih
theorem memF_ge (d : Nat) : ∀ (i s : Int), ∀ m ∈ memF d i s, i ≤ m := by
  induction d with
  | zero => intro i s m hm; simp [memF] at hm
  | succ d ih =>
    intro i s m hm
    rw [memF] at hm
    split at hm
    · split at hm
      · rcases List.mem_cons.1 hm with rfl | hm
        · omega
        · have := ih _ _ m hm; omega
      · have := ih _ _ m hm; omega
    · simp at hm
theorem memF_mem (d : Nat) : ∀ (i s : Int) (j : Nat), 0 ≤ s → s < pw d → (i + (j : Int) ∈ memF d i s ↔ bitAt j s = true) := by
  induction d with
  | zero =>
    intro i s j h0 h1
    simp only [pw] at h1
    rw [show s = 0 by omega, bitAt_zero]; simp [memF]
  | succ d ih =>
    intro i s j h0 h1
    simp only [pw] at h1
    by_cases hs : s > 0
    · rw [memF, if_pos hs]
      cases j with
      | zero =>
        rw [bitAt]
        by_cases hb : s % 2 = 1
        · rw [if_pos hb]; simp [hb]
        · rw [if_neg hb]
          simp only [hb, decide_false, Bool.false_eq_true, iff_false]
          intro hm
          have := memF_ge _ _ _ _ hm
          simp at this; omega
      | succ j =>
        have h2 := ih (i + 1) (s / 2) j (by omega) (by omega)
        rw [bitAt, ← h2, show i + ((j + 1 : Nat) : Int) = i + 1 + (j : Int) by omega]
        split
        · rw [List.mem_cons]
          exact ⟨fun g => g.resolve_left (by omega), .inr⟩
        · exact Iff.rfl
    · rw [show s = 0 by omega, bitAt_zero, memF]; simp
theorem memF_lt (d : Nat) : ∀ (i s : Int) (n : Nat), 0 ≤ s → s < pw n → n ≤ d → ∀ m ∈ memF d i s, m < i + n := by
  induction d with
  | zero => intro i s n h0 h1 h2 m hm; simp [memF] at hm
  | succ d ih =>
    intro i s n h0 h1 h2 m hm
    rw [memF] at hm
    split at hm
    · cases n with
      | zero => simp only [pw] at h1; omega
      | succ n =>
        simp only [pw] at h1
        have h3 := ih (i + 1) (s / 2) n (by omega) (by omega) (by omega)
        split at hm
        · rcases List.mem_cons.1 hm with rfl | hm
          · omega
          · have := h3 m hm; omega
        · have := h3 m hm; omega
    · simp at hm
theorem memF_sum (vals : List Int) (ys : List Int) : ∀ (d : Nat) (i s : Int), At vals i ys → 0 ≤ s → s < pw ys.length → ys.length ≤ d → wsm vals (memF d i s) = bs ys s := by
  induction ys with
  | nil =>
    intro d i s h h0 h1 h2
    simp only [List.length_nil, pw] at h1
    rw [show s = 0 by omega]
    cases d <;> simp [memF, wsm, bs]
  | cons y ys ih =>
    intro d i s h h0 h1 h2
    cases d with
    | zero => simp at h2
    | succ d =>
      simp only [List.length_cons, pw] at h1 h2
      rw [memF, bs]
      by_cases hs : s > 0
      · rw [if_pos hs]
        have h3 := ih d (i + 1) (s / 2) h.next (by omega) (by omega) (by omega)
        split
        · rw [wsm, At.rd h, h3]
        · rw [h3]; omega
      · rw [if_neg hs, show s = 0 by omega]
        simp [wsm, bs_zero]
theorem bs_range (ys : List Int) : ∀ s : Int, AllW ys 0 100 → 0 ≤ bs ys s ∧ bs ys s ≤ tot ys := by
  induction ys with
  | nil => intro s h; simp [bs, tot]
  | cons y ys ih =>
    intro s h
    have h1 := (allW_cons _ _ _ _).1 h
    have h2 := ih (s / 2) h1.2
    simp only [bs, tot]
    split <;> omega
/-- One good put into the other pile. -/
theorem bs_flip (ys : List Int) : ∀ (s : Int) (j : Nat), 0 ≤ s → s < pw ys.length → j < ys.length → ∃ s', 0 ≤ s' ∧ s' < pw ys.length ∧ bs ys s' = (if bitAt j s = true then bs ys s - ys.getD j 0 else bs ys s + ys.getD j 0) ∧ ∀ i, i ≠ j → bitAt i s' = bitAt i s := by
  induction ys with
  | nil => intro s j h0 h1 h2; simp at h2
  | cons y ys ih =>
    intro s j h0 h1 h2
    simp only [List.length_cons, pw] at h1 h2 ⊢
    cases j with
    | zero =>
      by_cases hb : s % 2 = 1
      · refine ⟨s - 1, by omega, by omega, ?_, fun i hi => ?_⟩
        · simp only [bs, bitAt, hb, decide_true, if_true]
          rw [if_neg (by omega), show (s - 1) / 2 = s / 2 by omega]
          simp; omega
        · cases i with
          | zero => omega
          | succ i => simp only [bitAt]; rw [show (s - 1) / 2 = s / 2 by omega]
      · refine ⟨s + 1, by omega, by omega, ?_, fun i hi => ?_⟩
        · simp only [bs, bitAt, hb, decide_false, if_false]
          rw [if_pos (by omega), show (s + 1) / 2 = s / 2 by omega]
          simp; omega
        · cases i with
          | zero => omega
          | succ i => simp only [bitAt]; rw [show (s + 1) / 2 = s / 2 by omega]
    | succ j =>
      obtain ⟨s', g0, g1, g2, g3⟩ := ih (s / 2) j (by omega) (by omega) (by omega)
      refine ⟨2 * s' + s % 2, by omega, by omega, ?_, fun i hi => ?_⟩
      · simp only [bs, bitAt]
        rw [show (2 * s' + s % 2) / 2 = s' by omega, show (2 * s' + s % 2) % 2 = s % 2 by omega, g2]
        simp only [List.getD_cons_succ]
        by_cases hb2 : bitAt j (s / 2) = true
        · simp only [if_pos hb2]; split <;> omega
        · simp only [if_neg hb2]; split <;> omega
      · cases i with
        | zero => simp only [bitAt]; rw [show (2 * s' + s % 2) % 2 = s % 2 by omega]
        | succ i => simp only [bitAt]; rw [show (2 * s' + s % 2) / 2 = s' by omega]; exact g3 i (by omega)
/-- The other pile. -/
theorem bs_compl (ys : List Int) : ∀ s : Int, 0 ≤ s → s < pw ys.length → bs ys s + bs ys (pw ys.length - 1 - s) = tot ys := by
  induction ys with
  | nil => intro s h0 h1; simp [bs, tot]
  | cons y ys ih =>
    intro s h0 h1
    simp only [List.length_cons, pw] at h1 ⊢
    have h2 := ih (s / 2) (by omega) (by omega)
    simp only [bs, tot]
    rw [show (2 * pw ys.length - 1 - s) / 2 = pw ys.length - 1 - s / 2 by omega]
    by_cases hb : s % 2 = 1
    · rw [if_pos hb, if_neg (by omega)]; omega
    · rw [if_neg hb, if_pos (by omega)]; omega
theorem memF_compl (n : Nat) : ∀ (d : Nat) (i s : Int), 0 ≤ s → s < pw n → n ≤ d → (memF d i s).length + (memF d i (pw n - 1 - s)).length = n := by
  induction n with
  | zero => intro d i s h0 h1 h2; simp only [pw] at *; rw [show s = 0 by omega]; cases d <;> simp [memF]
  | succ n ih =>
    intro d i s h0 h1 h2
    cases d with
    | zero => omega
    | succ d =>
      simp only [pw] at h1 ⊢
      have h3 := ih d (i + 1) (s / 2) (by omega) (by omega) (by omega)
      have hz : ∀ e : Nat, memF e (i + 1) 0 = [] := by intro e; cases e <;> simp [memF]
      have step : ∀ t : Int, 0 ≤ t → (memF (d + 1) i t).length = (if t % 2 = 1 then 1 else 0) + (memF d (i + 1) (t / 2)).length := by
        intro t ht
        rw [memF]
        by_cases hp : t > 0
        · rw [if_pos hp]; split <;> simp <;> omega
        · rw [if_neg hp, show t = 0 by omega]; simp [hz]
      rw [step s h0, step _ (by omega), show (2 * pw n - 1 - s) / 2 = pw n - 1 - s / 2 by omega]
      by_cases hb : s % 2 = 1
      · rw [if_pos hb, if_neg (by omega)]; omega
      · rw [if_neg hb, if_pos (by omega)]; omega
theorem memF_sorted (d : Nat) : ∀ i s : Int, (memF d i s).Pairwise (· < ·) := by
  induction d with
  | zero => intro i s; simp [memF]
  | succ d ih =>
    intro i s
    rw [memF]
    split
    · split
      · refine List.pairwise_cons.2 ⟨fun m hm => ?_, ih _ _⟩
        have := memF_ge _ _ _ m hm; omega
      · exact ih _ _
    · simp
theorem memF_length (d : Nat) : ∀ i s : Int, (memF d i s).length ≤ d := by
  induction d with
  | zero => intro i s; simp [memF]
  | succ d ih =>
    intro i s
    have := ih (i + 1) (s / 2)
    rw [memF]
    split
    · split <;> simp <;> omega
    · simp
theorem mx_def (a b : Int) : mx a b = if a < b then b else a := rfl
/-- By how much the piles differ. -/
def dst (vals : List Int) (s : Int) : Int := mx (tot vals - 2 * bs vals s) (2 * bs vals s - tot vals)
theorem dst_range (vals : List Int) (h : AllW vals 0 100) (s : Int) : 0 ≤ dst vals s ∧ dst vals s ≤ tot vals := by
  have := bs_range vals s h
  unfold dst; rw [mx_def]; split <;> omega
def bestF (vals : List Int) : Nat → Int → Int → Int → Int × Int
  | 0, _, b, l => (b, l)
  | d + 1, s, b, l => if dst vals s < l then bestF vals d (s + 1) s (dst vals s) else bestF vals d (s + 1) b l
def best (vals : List Int) : Int × Int := bestF vals (pw vals.length).toNat 0 0 (tot vals)
theorem bestF_ok (vals : List Int) (d : Nat) : ∀ s b l : Int, 0 ≤ s → s + d = pw vals.length → l = dst vals b → 0 ≤ b → b < pw vals.length → (∀ t : Int, 0 ≤ t → t < s → l ≤ dst vals t) →
    (bestF vals d s b l).2 = dst vals (bestF vals d s b l).1 ∧ 0 ≤ (bestF vals d s b l).1 ∧ (bestF vals d s b l).1 < pw vals.length ∧ ∀ t : Int, 0 ≤ t → t < pw vals.length → (bestF vals d s b l).2 ≤ dst vals t := by
  induction d with
  | zero => intro s b l h0 h1 h2 h3 h4 h5; exact ⟨h2, h3, h4, fun t t0 t1 => h5 t t0 (by omega)⟩
  | succ d ih =>
    intro s b l h0 h1 h2 h3 h4 h5
    rw [bestF]
    split
    · rename_i c
      refine ih _ _ _ (by omega) (by omega) rfl h0 (by omega) (fun t t0 t1 => ?_)
      by_cases e : t = s
      · subst e; omega
      · have := h5 t t0 (by omega); omega
    · rename_i c
      refine ih _ _ _ (by omega) (by omega) h2 h3 h4 (fun t t0 t1 => ?_)
      by_cases e : t = s
      · subst e; omega
      · exact h5 t t0 (by omega)
theorem best_ok (vals : List Int) (h : AllW vals 0 100) : (best vals).2 = dst vals (best vals).1 ∧ 0 ≤ (best vals).1 ∧ (best vals).1 < pw vals.length ∧ ∀ t : Int, 0 ≤ t → t < pw vals.length → (best vals).2 ≤ dst vals t := by
  have hp := pw_pos vals.length
  have ht := (tot_range (hi := 100) (by omega) h).1
  refine bestF_ok vals _ 0 0 _ (by omega) (by omega) ?_ (by omega) (by omega) (fun t t0 t1 => by omega)
  unfold dst
  rw [bs_zero, mx_def, if_neg (by omega)]; omega
theorem pw_le8 {n : Nat} (h : n ≤ 8) : pw n ≤ 256 := pw_mono h

/-! ### The walks. -/
theorem membersIn_l0 (a0 : Int) (ha : a0 < 9223372036854775808) (h0 : 0 ≤ a0) (d : Nat) : ∀ (i : Nat) (acc : List Int), a0 / pw i < pw d → i + d ≤ 60 → acc.length ≤ i → EvS (fun k => impl_membersIn.l0 k a0 acc i) (· = acc ++ memF d i (a0 / pw i)) := by
  have hsh : ∀ i : Nat, i ≤ 60 → shr .i64 a0 (i : Int) = a0 / pw i := by
    intro i hi
    show a0 / 2 ^ min (i : Int).toNat 64 = a0 / pw i
    rw [pw_eq, show min (i : Int).toNat 64 = i by omega]
  have hdiv : ∀ i : Nat, a0 / pw (i + 1) = a0 / pw i / 2 := by
    intro i
    rw [pw, Int.mul_comm, Int.ediv_ediv_of_nonneg (by have := pw_pos i; omega)]
  have hnn : ∀ i : Nat, 0 ≤ a0 / pw i := fun i => Int.ediv_nonneg h0 (by have := pw_pos i; omega)
  have hlt : ∀ i : Nat, a0 / pw i ≤ a0 := fun i => Int.ediv_le_self _ h0
  induction d with
  | zero =>
    intro i acc h1 h2 h3
    refine EvS.step (fun k => by rw [impl_membersIn.l0]) ?_
    have := hnn i
    simp only [pw] at h1
    rw [hsh i (by omega)]
    exact EvS.pos (by omega) (EvS.neg (by omega) (EvS.now (by simp [memF])))
  | succ d ih =>
    intro i acc h1 h2 h3
    have g1 := hnn i
    have g2 := hlt i
    have g3 := hdiv i
    simp only [pw] at h1
    have hn := fun acc' => ih (i + 1) acc' (by rw [g3]; omega) (by omega)
    refine EvS.step (fun k => by rw [impl_membersIn.l0]) ?_
    rw [hsh i (by omega), w64 (x := (i : Int) + 1) (by omega) (by omega), memF]
    refine EvS.pos (by omega) ?_
    by_cases hs : a0 / pw i > 0
    · rw [if_pos hs, and_one _ g1 (by omega)]
      refine EvS.pos hs ?_
      by_cases hb : a0 / pw i % 2 = 1
      · rw [if_pos hb]
        refine EvS.pos hb (EvS.pos (by omega) (EvS.mono (hn (acc ++ [(i : Int)]) (by simp; omega)) (fun r hr => ?_)))
        rw [hr, g3]; simp
      · rw [if_neg hb]
        refine EvS.neg hb (EvS.mono (hn acc (by omega)) (fun r hr => ?_))
        rw [hr, g3]; simp
    · rw [if_neg hs]
      exact EvS.neg hs (EvS.now (by simp))
theorem membersIn_ok (s : Int) (h0 : 0 ≤ s) (h1 : s < pw 8) : EvS (fun k => impl_membersIn.f k s) (· = memF 8 0 s) := by
  simp only [impl_membersIn.f]
  have h2 : s < 256 := h1
  have := membersIn_l0 s (by omega) h0 8 0 [] (by simp only [pw]; omega) (by omega) (by simp)
  simp only [pw, Int.ediv_one] at this
  exact this
theorem membersOf_l0 (d : Nat) : ∀ (i : Nat) (s : Int) (acc : List Int), 0 ≤ s → s < pw d → i + d ≤ 60 → acc.length ≤ i → EvS (fun k => spec_membersOf.l0 k s acc i) (· = acc ++ memF d i s) := by
  induction d with
  | zero =>
    intro i s acc h0 h1 h2 h3
    simp only [pw] at h1
    refine EvS.step (fun k => by rw [spec_membersOf.l0]) ?_
    exact EvS.neg (by omega) (EvS.now (by simp [memF]))
  | succ d ih =>
    intro i s acc h0 h1 h2 h3
    simp only [pw] at h1
    have hpm := pw_mono (show d ≤ 60 by omega)
    have hp60 : pw 60 = 1152921504606846976 := by rw [pw_eq]; rfl
    refine EvS.step (fun k => by rw [spec_membersOf.l0]) ?_
    rw [tmod_pos _ _ h0, tdiv_pos _ _ h0, w64 (x := s / 2) (by omega) (by omega), w64 (x := (i : Int) + 1) (by omega) (by omega), memF]
    by_cases hs : s > 0
    · rw [if_pos hs]
      refine EvS.pos hs ?_
      by_cases hb : s % 2 = 1
      · rw [if_pos hb]
        refine EvS.pos hb (EvS.pos (by omega) (EvS.mono (ih (i + 1) (s / 2) (acc ++ [(i : Int)]) (by omega) (by omega) (by omega) (by simp; omega)) (fun r hr => ?_)))
        rw [hr]; simp
      · rw [if_neg hb]
        refine EvS.neg hb (EvS.mono (ih (i + 1) (s / 2) acc (by omega) (by omega) (by omega) (by omega)) (fun r hr => ?_))
        rw [hr]; simp
    · rw [if_neg hs]
      exact EvS.neg hs (EvS.now (by simp))
theorem membersOf_ok (s : Int) (h0 : 0 ≤ s) (h1 : s < pw 8) : EvS (fun k => spec_membersOf.f k s) (· = memF 8 0 s) := by
  simp only [spec_membersOf.f]
  have := membersOf_l0 8 0 s [] h0 h1 (by omega) (by simp)
  simpa using this
theorem worthOf_l0 (vals : List Int) (hv : AllW vals 0 100) (ms : List Int) (hl : ms.length ≤ 100) (hm : ∀ m ∈ ms, 0 ≤ m ∧ m < vals.length) (ys : List Int) : ∀ i acc : Int, At ms i ys → 0 ≤ acc → acc ≤ 100 * i → EvS (fun k => impl_worthOf.l0 k vals acc ms ms.length i) (· = acc + wsm vals ys) := by
  induction ys with
  | nil =>
    intro i acc h a0 a1
    refine EvS.step (fun k => by rw [impl_worthOf.l0]) ?_
    exact EvS.neg (by have := h.ge; omega) (EvS.now (by simp [wsm]))
  | cons y ys ih =>
    intro i acc h a0 a1
    have h1 := h.lt
    have h2 := h.nonneg
    have hy := hm y h.mem
    have hr := rd_range hv y hy.1 hy.2
    refine EvS.step (fun k => by rw [impl_worthOf.l0]) ?_
    refine EvS.pos h.lt (EvS.pos h.nonneg (EvS.pos h.lt ?_))
    rw [At.rd h, w64 (x := acc + rd vals y) (by omega) (by omega), w64 (x := i + 1) (by omega) (by omega)]
    refine EvS.pos hy.1 (EvS.pos hy.2 (EvS.mono (ih (i + 1) (acc + rd vals y) h.next (by omega) (by omega)) (fun r hr => ?_)))
    rw [hr]; simp only [wsm]; omega
theorem worthOf_ok (vals : List Int) (hv : AllW vals 0 100) (hl : vals.length ≤ 8) (s : Int) (h0 : 0 ≤ s) (h1 : s < pw vals.length) : EvS (fun k => impl_worthOf.f k vals (memF 8 0 s)) (· = bs vals s) := by
  simp only [impl_worthOf.f]
  have h2 := memF_length 8 0 s
  refine EvS.mono (worthOf_l0 vals hv (memF 8 0 s) (by omega) (fun m hm => ⟨memF_ge _ _ _ m hm, by have := memF_lt 8 0 s vals.length h0 h1 hl m hm; omega⟩) _ 0 0 (At.zero _) (by omega) (by omega)) (fun r hr => ?_)
  rw [hr, memF_sum vals vals 8 0 s (At.zero _) h0 h1 hl]; omega
theorem distance_eq (a b : Int) (h0 : 0 ≤ a) (h1 : a ≤ 10000) (h2 : 0 ≤ b) (h3 : b ≤ 10000) : impl_distance.f a b = some (mx (b - a) (a - b)) := by
  unfold impl_distance.f
  rw [w64 (x := a - b) (by omega) (by omega), w64 (x := b - a) (by omega) (by omega), mx_def, mx_def]
  congr 1
  split <;> split <;> omega
def VV (vals : List Int) : Prop := vals.length ≤ 8 ∧ AllW vals 0 100
instance (vals : List Int) : Decidable (VV vals) := by unfold VV; infer_instance
theorem validValues_ok (vals : List Int) (hl : vals.length ≤ 4000000) : EvS (fun k => impl_validValues.f k vals) (· = decide (VV vals)) := by
  simp only [impl_validValues.f]
  refine EvS.ite (fun c => EvS.bindv (allWithin_ok vals (by omega) _ _) (EvS.now (decide_eq_decide.2 ⟨fun g => ⟨by omega, g⟩, fun g => g.2⟩))) (fun c => EvS.now (decide_eq_false (fun g => by have := g.1; omega)).symm)
theorem bestPile_l0 (vals : List Int) (hv : VV vals) (d : Nat) : ∀ s b l : Int, 0 ≤ s → s + d = pw vals.length → EvS (fun k => impl_bestPile.l0 k vals (tot vals) b l (pw vals.length) s) (· = (bestF vals d s b l).1) := by
  have hp8 := pw_le8 hv.1
  have ht := tot_range (hi := 100) (by omega) hv.2
  have hvl := hv.1
  induction d with
  | zero =>
    intro s b l h0 h1
    refine EvS.step (fun k => by rw [impl_bestPile.l0]) ?_
    exact EvS.neg (by omega) (EvS.now rfl)
  | succ d ih =>
    intro s b l h0 h1
    have hb := bs_range vals s hv.2
    refine EvS.step (fun k => by rw [impl_bestPile.l0]) ?_
    refine EvS.pos (by omega) (EvS.bindv (membersIn_ok s h0 (by have : pw 8 = 256 := rfl; omega)) (EvS.bindv (worthOf_ok vals hv.2 hv.1 s h0 (by omega)) ?_))
    rw [w64 (x := 2 * bs vals s) (by omega) (by omega), w64 (x := s + 1) (by omega) (by omega)]
    refine EvS.call (distance_eq _ _ (by omega) (by omega) ht.1 (by omega)) ?_
    rw [bestF]
    show EvS (fun n => if dst vals s < l then _ else _) _
    by_cases c : dst vals s < l
    · rw [if_pos c]; exact EvS.pos c (ih _ _ _ (by omega) (by omega))
    · rw [if_neg c]; exact EvS.neg c (ih _ _ _ (by omega) (by omega))
theorem shl_pw {n : Nat} (h : n ≤ 8) : shl .i64 1 (n : Int) = pw n := by
  obtain rfl | rfl | rfl | rfl | rfl | rfl | rfl | rfl | rfl : n = 0 ∨ n = 1 ∨ n = 2 ∨ n = 3 ∨ n = 4 ∨ n = 5 ∨ n = 6 ∨ n = 7 ∨ n = 8 := by omega
  all_goals decide
theorem bestPile_ok (vals : List Int) (hv : VV vals) : EvS (fun k => impl_bestPile.f k vals) (· = (best vals).1) := by
  have hvl := hv.1
  have hp := pw_pos vals.length
  simp only [impl_bestPile.f]
  refine EvS.bindv (sumOf_ok vals (by omega) (fun x hx => by have := hv.2 x hx; omega)) ?_
  rw [shl_pw hv.1]
  exact bestPile_l0 vals hv _ 0 0 _ (by omega) (by omega)
theorem power_l0 (n : Nat) (hn : n ≤ 8) (d : Nat) : ∀ i : Nat, i + d = n → EvS (fun k => spec_power.l0 k n (pw i) i) (· = pw n) := by
  induction d with
  | zero =>
    intro i h
    refine EvS.step (fun k => by rw [spec_power.l0]) ?_
    exact EvS.neg (by omega) (EvS.now (by rw [show i = n by omega]))
  | succ d ih =>
    intro i h
    have := pw_le8 (show i ≤ 8 by omega)
    have := pw_pos i
    refine EvS.step (fun k => by rw [spec_power.l0]) ?_
    refine EvS.pos (by omega) ?_
    rw [w64 (x := 2 * pw i) (by omega) (by omega), w64 (x := (i : Int) + 1) (by omega) (by omega)]
    exact ih (i + 1) (by omega)
theorem power_ok (n : Nat) (hn : n ≤ 8) : EvS (fun k => spec_power.f k n) (· = pw n) := by
  simp only [spec_power.f]
  exact power_l0 n hn n 0 (by omega)
theorem has_l0 (n : Nat) (hn : n ≤ 60) (d : Nat) : ∀ (i s : Int), i + d = n → 0 ≤ i → 0 ≤ s → s < 9223372036854775808 → EvS (fun k => spec_has.l0 k s n i) (· = bitAt d s) := by
  induction d with
  | zero =>
    intro i s h h0 h1 h2
    refine EvS.step (fun k => by rw [spec_has.l0]) ?_
    rw [tmod_pos _ _ h1, bitAt]
    exact EvS.neg (by omega) (EvS.now (beq_dec _ _))
  | succ d ih =>
    intro i s h h0 h1 h2
    refine EvS.step (fun k => by rw [spec_has.l0]) ?_
    rw [tdiv_pos _ _ h1, w64 (x := s / 2) (by omega) (by omega), w64 (x := i + 1) (by omega) (by omega), bitAt]
    exact EvS.pos (by omega) (ih _ _ (by omega) (by omega) (by omega) (by omega))
theorem has_ok (n : Nat) (hn : n ≤ 60) (s : Int) (h0 : 0 ≤ s) (h1 : s < 9223372036854775808) : EvS (fun k => spec_has.f k s n) (· = bitAt n s) := by
  simp only [spec_has.f]
  exact has_l0 n hn n 0 s (by omega) (by omega) h0 h1
/-- The sum of a pile, from an index on, by the bits of the whole. -/
def bsF (s : Int) : Nat → List Int → Int
  | _, [] => 0
  | n, v :: vs => (if bitAt n s = true then v else 0) + bsF s (n + 1) vs
theorem bsF_shift (vs : List Int) : ∀ (n : Nat) (s : Int), bsF s (n + 1) vs = bsF (s / 2) n vs := by
  induction vs with
  | nil => intro n s; rfl
  | cons v vs ih => intro n s; simp only [bsF, bitAt, ih]; rfl
theorem bsF_eq (vs : List Int) : ∀ s : Int, bsF s 0 vs = bs vs s := by
  induction vs with
  | nil => intro s; rfl
  | cons v vs ih =>
    intro s
    simp only [bsF, bs, bitAt, bsF_shift, ih, decide_eq_true_eq]
theorem piles_l1 (vals : List Int) (hv : VV vals) (b l s : Int) (h0 : 0 ≤ s) (h1 : s < pw vals.length) {P : Int × Int → Prop} (hk : EvS (fun k => if dst vals s < l then spec_piles.l0 k vals (tot vals) (dst vals s) s (s + 1) else spec_piles.l0 k vals (tot vals) l b (s + 1)) P) (ys : List Int) : ∀ (i : Nat) (acc : Int), At vals i ys → acc + bsF s i ys = bs vals s → 0 ≤ acc → acc ≤ 100 * i →
    EvS (fun k => spec_piles.l1 k vals (tot vals) l b s acc i) P := by
  have hp8 := pw_le8 hv.1
  have ht := tot_range (hi := 100) (by omega) hv.2
  have hvl := hv.1
  have hb := bs_range vals s hv.2
  induction ys with
  | nil =>
    intro i acc h e a0 a1
    simp only [bsF] at e
    refine EvS.step (fun k => by rw [spec_piles.l1]) ?_
    rw [show acc = bs vals s by omega, w64 (x := 2 * bs vals s) (by omega) (by omega), w64 (x := tot vals - 2 * bs vals s) (by omega) (by omega), w64 (x := 2 * bs vals s - tot vals) (by omega) (by omega), w64 (x := s + 1) (by omega) (by omega)]
    exact EvS.neg (by have := h.ge; omega) hk
  | cons y ys ih =>
    intro i acc h e a0 a1
    have k1 := h.lt
    have hy := hv.2 y h.mem
    simp only [bsF] at e
    refine EvS.step (fun k => by rw [spec_piles.l1]) ?_
    refine EvS.pos h.lt (EvS.bindv (has_ok i (by omega) s h0 (by omega)) ?_)
    rw [At.rd h, w64 (x := acc + y) (by omega) (by omega), w64 (x := (i : Int) + 1) (by omega) (by omega)]
    have hnx : At vals (((i + 1 : Nat)) : Int) ys := h.next
    cases hbit : bitAt i s with
    | true =>
      rw [hbit, if_pos rfl] at e
      exact EvS.pos rfl (EvS.pos h.nonneg (ih (i + 1) _ hnx (by omega) (by omega) (by omega)))
    | false =>
      rw [hbit, if_neg (by simp)] at e
      exact EvS.neg (by simp) (ih (i + 1) _ hnx (by omega) (by omega) (by omega))
theorem piles_l0 (vals : List Int) (hv : VV vals) (d : Nat) : ∀ s b l : Int, 0 ≤ s → s + d = pw vals.length → EvS (fun k => spec_piles.l0 k vals (tot vals) l b s) (· = ((bestF vals d s b l).2, (bestF vals d s b l).1)) := by
  have hvl := hv.1
  induction d with
  | zero =>
    intro s b l h0 h1
    refine EvS.step (fun k => by rw [spec_piles.l0]) ?_
    exact EvS.bindv (power_ok _ hv.1) (EvS.neg (by omega) (EvS.now rfl))
  | succ d ih =>
    intro s b l h0 h1
    refine EvS.step (fun k => by rw [spec_piles.l0]) ?_
    refine EvS.bindv (power_ok _ hv.1) (EvS.pos (by omega) ?_)
    refine piles_l1 vals hv b l s h0 (by omega) ?_ vals 0 0 (At.zero _) (by rw [bsF_eq]; omega) (by omega) (by omega)
    rw [bestF]
    by_cases c : dst vals s < l
    · rw [if_pos c]; exact EvS.pos c (ih _ _ _ (by omega) (by omega))
    · rw [if_neg c]; exact EvS.neg c (ih _ _ _ (by omega) (by omega))
theorem piles_ok (vals : List Int) (hv : VV vals) : EvS (fun k => spec_piles.f k vals) (· = ((best vals).2, (best vals).1)) := by
  have hvl := hv.1
  have hp := pw_pos vals.length
  simp only [spec_piles.f]
  refine EvS.bindv (spec_total_ok vals (by omega) (fun x hx => by have := hv.2 x hx; omega)) ?_
  exact piles_l0 vals hv _ 0 0 _ (by omega) (by omega)
def tp (vals : List Int) : List Int × Int := if VV vals then (memF 8 0 (best vals).1, (best vals).2) else ([], -1)
theorem tp_len (vals : List Int) : (tp vals).1.length ≤ 8 := by
  unfold tp; split
  · exact memF_length 8 0 _
  · simp
theorem impl_TwoPiles_ok (vals : List Int) (hl : vals.length ≤ 4000000) : EvS (fun k => impl_TwoPiles.f k vals) (· = tp vals) := by
  simp only [impl_TwoPiles.f]
  refine EvS.bindv (validValues_ok vals hl) (EvS.ite (fun c => ?_) (fun c => EvS.now (by rw [tp, if_neg (ndec c)])))
  have hv := of_decide_eq_true c
  have hp8 := pw_le8 hv.1
  have hvl := hv.1
  have ht := tot_range (hi := 100) (by omega) hv.2
  obtain ⟨b1, b2, b3, b4⟩ := best_ok vals hv.2
  have hb := bs_range vals (best vals).1 hv.2
  refine EvS.bindv (bestPile_ok vals hv) (EvS.bindv (membersIn_ok _ b2 (by have : pw 8 = 256 := rfl; omega)) (EvS.bindv (worthOf_ok vals hv.2 hv.1 _ b2 b3) (EvS.bindv (sumOf_ok vals (by omega) (fun x hx => by have := hv.2 x hx; omega)) ?_)))
  rw [w64 (x := 2 * bs vals (best vals).1) (by omega) (by omega)]
  refine EvS.call (distance_eq _ _ (by omega) (by omega) ht.1 (by omega)) (EvS.now ?_)
  rw [tp, if_pos hv, b1]; rfl
/-! ## One cuts, the other one chooses. -/
def VCut (cut choose : List Int) : Prop := VV cut ∧ VV choose ∧ cut.length = choose.length
instance (cut choose : List Int) : Decidable (VCut cut choose) := by unfold VCut; infer_instance
def other (cut : List Int) : Int := pw cut.length - 1 - (best cut).1
def ca (cut choose : List Int) : List Int × List Int :=
  if VCut cut choose then (if bs choose (best cut).1 ≥ bs choose (other cut) then (memF 8 0 (best cut).1, memF 8 0 (other cut)) else (memF 8 0 (other cut), memF 8 0 (best cut).1)) else ([], [])
theorem ca_len (cut choose : List Int) : (ca cut choose).1.length ≤ 8 ∧ (ca cut choose).2.length ≤ 8 := by
  unfold ca
  split
  · split
    · exact ⟨memF_length 8 0 _, memF_length 8 0 _⟩
    · exact ⟨memF_length 8 0 _, memF_length 8 0 _⟩
  · simp
theorem other_range {cut : List Int} (h : VV cut) : 0 ≤ other cut ∧ other cut < pw cut.length := by
  obtain ⟨b1, b2, b3, b4⟩ := best_ok cut h.2
  unfold other; omega
theorem impl_CutAndChoose_ok (cut choose : List Int) (hl : cut.length ≤ 4000000) (hl2 : choose.length ≤ 4000000) : EvS (fun k => impl_CutAndChoose.f k cut choose) (· = ca cut choose) := by
  have jt : ¬ VCut cut choose → EvS (fun k => impl_CutAndChoose.j0 k cut choose true) (· = ca cut choose) := by
    intro g
    refine EvS.step (fun k => by rw [impl_CutAndChoose.j0]) ?_
    exact EvS.pos rfl (EvS.now (by rw [ca, if_neg g]))
  simp only [impl_CutAndChoose.f]
  refine EvS.bindv (validValues_ok cut hl) (EvS.ite (fun c1 => EvS.bindv (validValues_ok choose hl2) (EvS.ite (fun c2 => ?_) (fun c2 => jt (fun g => ndec c2 g.2.1)))) (fun c1 => jt (fun g => ndec c1 g.1)))
  have c1 := of_decide_eq_true c1
  have c2 := of_decide_eq_true c2
  by_cases c3 : cut.length = choose.length
  · have hv : VCut cut choose := ⟨c1, c2, c3⟩
    have hp8 := pw_le8 c1.1
    obtain ⟨b1, b2, b3, b4⟩ := best_ok cut c1.2
    have ho := other_range c1
    have hp := pw_pos cut.length
    rw [show ((cut.length : Int) != (choose.length : Int)) = false by simp [c3]]
    refine EvS.step (fun k => by rw [impl_CutAndChoose.j0]) ?_
    refine EvS.neg (by simp) (EvS.bindv (bestPile_ok cut c1) (EvS.bindv (membersIn_ok _ b2 (by have : pw 8 = 256 := rfl; omega)) ?_))
    rw [shl_pw c1.1, w64 (x := pw cut.length - 1) (by omega) (by omega), w64 (x := pw cut.length - 1 - (best cut).1) (by omega) (by omega)]
    refine EvS.bindv (membersIn_ok (other cut) ho.1 (by have : pw 8 = 256 := rfl; omega)) (EvS.bindv (worthOf_ok choose c2.2 c2.1 _ b2 (by rw [← c3]; exact b3)) (EvS.bindv (worthOf_ok choose c2.2 c2.1 _ ho.1 (by rw [← c3]; exact ho.2)) ?_))
    rw [ca, if_pos hv]
    by_cases c : bs choose (best cut).1 ≥ bs choose (other cut)
    · simp only [if_pos c]; exact EvS.now rfl
    · simp only [if_neg c]; exact EvS.now rfl
  · rw [show ((cut.length : Int) != (choose.length : Int)) = true by simp; omega]
    exact jt (fun g => c3 g.2.2)
theorem spec_worthOf_l0 (vals : List Int) (hv : AllW vals 0 100) (ms : List Int) (hl : ms.length ≤ 100) (hm : ∀ m ∈ ms, 0 ≤ m ∧ m < vals.length) (ys : List Int) : ∀ i acc : Int, At ms i ys → 0 ≤ acc → acc ≤ 100 * i → EvS (fun k => spec_worthOf.l0 k vals ms acc i) (· = acc + wsm vals ys) := by
  induction ys with
  | nil =>
    intro i acc h a0 a1
    refine EvS.step (fun k => by rw [spec_worthOf.l0]) ?_
    exact EvS.neg (by have := h.ge; omega) (EvS.now (by simp [wsm]))
  | cons y ys ih =>
    intro i acc h a0 a1
    have h1 := h.lt
    have h2 := h.nonneg
    have hy := hm y h.mem
    have hr := rd_range hv y hy.1 hy.2
    refine EvS.step (fun k => by rw [spec_worthOf.l0]) ?_
    refine EvS.pos h.lt (EvS.pos h.nonneg ?_)
    rw [At.rd h, w64 (x := acc + rd vals y) (by omega) (by omega), w64 (x := i + 1) (by omega) (by omega)]
    refine EvS.pos hy.1 (EvS.pos hy.2 (EvS.mono (ih (i + 1) (acc + rd vals y) h.next (by omega) (by omega)) (fun r hr => ?_)))
    rw [hr]; simp only [wsm]; omega
theorem spec_worthOf_ok (vals : List Int) (hv : AllW vals 0 100) (hl : vals.length ≤ 8) (s : Int) (h0 : 0 ≤ s) (h1 : s < pw vals.length) : EvS (fun k => spec_worthOf.f k vals (memF 8 0 s)) (· = bs vals s) := by
  simp only [spec_worthOf.f]
  have h2 := memF_length 8 0 s
  refine EvS.mono (spec_worthOf_l0 vals hv (memF 8 0 s) (by omega) (fun m hm => ⟨memF_ge _ _ _ m hm, by have := memF_lt 8 0 s vals.length h0 h1 hl m hm; omega⟩) _ 0 0 (At.zero _) (by omega) (by omega)) (fun r hr => ?_)
  rw [hr, memF_sum vals vals 8 0 s (At.zero _) h0 h1 hl]; omega
theorem spec_CutAndChoose_ok (cut choose : List Int) (hl : cut.length ≤ 4000000) (hl2 : choose.length ≤ 4000000) : EvS (fun k => spec_CutAndChoose.f k cut choose) (· = ca cut choose) := by
  have jt : ¬ VCut cut choose → EvS (fun k => spec_CutAndChoose.j0 k cut choose true) (· = ca cut choose) := by
    intro g
    refine EvS.step (fun k => by rw [spec_CutAndChoose.j0]) ?_
    exact EvS.pos rfl (EvS.now (by rw [ca, if_neg g]))
  simp only [spec_CutAndChoose.f]
  refine EvS.ite (fun c => jt (fun g => by have := g.1.1; omega)) (fun c0 => EvS.ite (fun c3 => EvS.bindv (allIn_ok cut (by omega) _ _) (EvS.ite (fun c1 => EvS.bindv (allIn_ok choose (by omega) _ _) ?_) (fun c1 => jt (fun g => ndec c1 g.1.2)))) (fun c3 => jt (fun g => c3 (by rw [g.2.2]))))
  have c1 := of_decide_eq_true c1
  by_cases c2 : AllW choose 0 100
  · have v1 : VV cut := ⟨by omega, c1⟩
    have v2 : VV choose := ⟨by omega, c2⟩
    have hv : VCut cut choose := ⟨v1, v2, by omega⟩
    have hp8 := pw_le8 v1.1
    obtain ⟨b1, b2, b3, b4⟩ := best_ok cut c1
    have ho := other_range v1
    have hp := pw_pos cut.length
    have hpc : pw choose.length = pw cut.length := by rw [hv.2.2]
    rw [decide_eq_true c2]
    refine EvS.step (fun k => by rw [spec_CutAndChoose.j0]) ?_
    refine EvS.neg (by simp) (EvS.bindv (piles_ok cut v1) ?_)
    dsimp only
    refine EvS.bindv (membersOf_ok _ b2 (by have : pw 8 = 256 := rfl; omega)) (EvS.bindv (power_ok _ v1.1) ?_)
    rw [w64 (x := pw cut.length - 1) (by omega) (by omega), w64 (x := pw cut.length - 1 - (best cut).1) (by omega) (by omega)]
    refine EvS.bindv (membersOf_ok (other cut) ho.1 (by have : pw 8 = 256 := rfl; omega)) (EvS.bindv (spec_worthOf_ok choose c2 v2.1 _ b2 (by rw [hpc]; exact b3)) (EvS.bindv (spec_worthOf_ok choose c2 v2.1 _ ho.1 (by rw [hpc]; exact ho.2)) ?_))
    rw [ca, if_pos hv]
    by_cases c : bs choose (best cut).1 ≥ bs choose (other cut)
    · simp only [if_pos c]; exact EvS.now rfl
    · simp only [if_neg c]; exact EvS.now rfl
  · rw [decide_eq_false c2]
    exact jt (fun g => c2 g.2.1.2)
theorem someValues_l0 (b : List Int) (hb : BytesOk b) (n : Int) (hn : 0 ≤ n) (hn2 : n ≤ 12) (d : Nat) : ∀ (i p : Int) (out : List Int), i + d = n → 0 ≤ i → out.length = i → 0 ≤ p → p + 2 * d + 2 ≤ 10000 →
    EvS (fun k => spec_someValues.l0 k n out i b p) (fun r => (r.1.length : Int) = n ∧ p ≤ r.2 ∧ r.2 ≤ p + 2 * d + 2) := by
  induction d with
  | zero =>
    intro i p out h1 h2 h3 h4 h5
    refine EvS.step (fun k => by rw [spec_someValues.l0]) ?_
    refine EvS.neg (by omega) (EvS.ite (fun c => ?_) (fun c => EvS.now ⟨by dsimp only; omega, by dsimp only; omega, by dsimp only; omega⟩))
    refine EvS.bind (pick_ok _ _ _ hb (by omega) (by omega)) ?_
    rintro ⟨v1, _⟩ ⟨v1_0, v1_1, v1_2, rfl⟩
    dsimp only at v1_0 v1_1 v1_2 ⊢
    refine EvS.ite (fun _ => ?_) (fun _ => EvS.now ⟨by dsimp only; omega, by dsimp only; omega, by dsimp only; omega⟩)
    refine EvS.bind (one_ok _ _ _ hb (by omega) (by omega) (by simp)) ?_
    rintro ⟨v2, _⟩ ⟨v2_m, rfl⟩
    dsimp only at v2_m ⊢
    exact EvS.pos (by omega) (EvS.now ⟨by simp; omega, by dsimp only; omega, by dsimp only; omega⟩)
  | succ d ih =>
    intro i p out h1 h2 h3 h4 h5
    refine EvS.step (fun k => by rw [spec_someValues.l0]) ?_
    refine EvS.pos (by omega) ?_
    refine EvS.bind (pick_ok _ _ _ hb (by omega) (by omega)) ?_
    rintro ⟨v1, _⟩ ⟨v1_0, v1_1, v1_2, rfl⟩
    dsimp only at v1_0 v1_1 v1_2 ⊢
    refine EvS.bind (one_ok _ _ _ hb (by omega) (by omega) (by simp)) ?_
    rintro ⟨v2, _⟩ ⟨v2_m, rfl⟩
    dsimp only at v2_m ⊢
    rw [w64 (x := i + 1) (by omega) (by omega)]
    refine EvS.pos (by omega) (EvS.mono (ih _ _ _ (by omega) (by omega) (by simp; omega) (by omega) (by omega)) (fun r hr => ?_))
    obtain ⟨g1, g2, g3⟩ := hr
    exact ⟨g1, by omega, by omega⟩
theorem someValues_ok (b : List Int) (hb : BytesOk b) (n p : Int) (hn : 0 ≤ n) (hn2 : n ≤ 12) (h0 : 0 ≤ p) (h1 : p ≤ 5000) :
    EvS (fun k => spec_someValues.f k b p n) (fun r => (r.1.length : Int) = n ∧ p ≤ r.2 ∧ r.2 ≤ p + 26) := by
  simp only [spec_someValues.f]
  refine EvS.mono (someValues_l0 b hb n hn hn2 n.toNat 0 p [] (by omega) (by omega) (by simp) h0 (by omega)) (fun r hr => ?_)
  obtain ⟨g1, g2, g3⟩ := hr
  exact ⟨g1, g2, by omega⟩
theorem draw_ok (l : List Int) (hl : ∀ x ∈ l, 0 ≤ x ∧ x ≤ 255) : EvS (fun k => spec_DrawCutAndChoose.f k l) (fun r => r.1.length ≤ 12 ∧ r.2.length ≤ 12) := by
  simp only [spec_DrawCutAndChoose.f]
  obtain ⟨b, be, hb⟩ := newReader_ok l hl
  refine EvS.call be ?_
  dsimp only
  refine EvS.bind (one_ok _ _ _ hb (by omega) (by omega) (by simp)) ?_
  rintro ⟨v1, _⟩ ⟨v1_m, rfl⟩
  dsimp only at v1_m ⊢
  have hv : 0 ≤ v1 ∧ v1 ≤ 9 := by simp at v1_m; omega
  refine EvS.bind (someValues_ok b hb v1 _ (by omega) (by omega) (by omega) (by omega)) ?_
  rintro ⟨vals, q⟩ ⟨g1, g2, g3⟩
  dsimp only at g1 g2 g3 ⊢
  refine EvS.bind (one_ok _ _ _ hb (by omega) (by omega) (by simp)) ?_
  rintro ⟨v2, _⟩ ⟨v2_m, rfl⟩
  dsimp only at v2_m ⊢
  have hv2 : 0 ≤ v2 ∧ v2 ≤ 1 := by simp at v2_m; omega
  rw [w64 (x := v1 - v2) (by omega) (by omega)]
  have hm : 0 ≤ mx 0 (v1 - v2) ∧ mx 0 (v1 - v2) ≤ 9 := by rw [mx_def]; split <;> omega
  refine EvS.bind (someValues_ok b hb _ _ hm.1 (by omega) (by omega) (by omega)) ?_
  rintro ⟨vals2, q2⟩ ⟨e1, e2, e3⟩
  exact EvS.now (by dsimp only at e1 ⊢; omega)
theorem ascends_l0 (xs : List Int) (hl : xs.length ≤ 1000) (hs : xs.Pairwise (· < ·)) (d : Nat) : ∀ i : Int, i + d = xs.length → 1 ≤ i → EvS (fun k => laws_ascends.l0 k xs i) (· = true) := by
  induction d with
  | zero =>
    intro i h1 h2
    refine EvS.step (fun k => by rw [laws_ascends.l0]) ?_
    exact EvS.neg (by omega) (EvS.now rfl)
  | succ d ih =>
    intro i h1 h2
    refine EvS.step (fun k => by rw [laws_ascends.l0]) ?_
    rw [w64 (x := i - 1) (by omega) (by omega), w64 (x := i + 1) (by omega) (by omega)]
    refine EvS.pos (by omega) (EvS.pos (by omega) (EvS.pos (by omega) (EvS.pos (by omega) (EvS.neg ?_ (ih _ (by omega) (by omega))))))
    have ha := List.pairwise_iff_getElem.1 hs (i - 1).toNat i.toNat (by omega) (by omega) (by omega)
    unfold rd
    rw [List.getD_eq_getElem?_getD, List.getD_eq_getElem?_getD, List.getElem?_eq_getElem (show i.toNat < xs.length by omega), List.getElem?_eq_getElem (show (i - 1).toNat < xs.length by omega)]
    simp only [Option.getD_some]
    omega
theorem ascends_ok (xs : List Int) (hl : xs.length ≤ 1000) (hs : xs.Pairwise (· < ·)) : EvS (fun k => laws_ascends.f k xs) (· = true) := by
  simp only [laws_ascends.f]
  by_cases h : xs.length = 0
  · refine EvS.step (fun k => by rw [laws_ascends.l0]) ?_
    exact EvS.neg (by omega) (EvS.now rfl)
  · exact ascends_l0 xs hl hs (xs.length - 1) 1 (by omega) (by omega)
section
variable (cut choose : List Int) (hv : VCut cut choose) (sM sY : Int) (hM : 0 ≤ sM ∧ sM < pw cut.length) (hY : 0 ≤ sY ∧ sY < pw cut.length) (hsum : sM + sY = pw cut.length - 1) (hge : bs choose sM ≥ bs choose sY) (hor : sY = (best cut).1 ∨ sM = (best cut).1)
include hv hM hY hsum hge hor
theorem law_l1 (ys : List Int) : ∀ i acc : Int, At (memF 8 0 sY) i ys → acc + wsm cut ys = bs cut sY → 0 ≤ acc → acc ≤ 100 * i → EvS (fun k => laws_FnCutAndChoose.l1 k cut choose (memF 8 0 sM) (memF 8 0 sY) (bs choose sM) acc i) (· = true) := by
  have hvl := hv.1.1
  have hvl2 := hv.2.1.1
  have hpc : pw choose.length = pw cut.length := by rw [hv.2.2]
  have hml := memF_length 8 0 sM
  have hyl := memF_length 8 0 sY
  obtain ⟨b1, b2, b3, b4⟩ := best_ok cut hv.1.2
  induction ys with
  | nil =>
    intro i acc h e a0 a1
    simp only [wsm] at e
    have c1 := bs_compl choose sM hM.1 (by omega)
    have c2 := bs_compl cut sM hM.1 hM.2
    have c3 := memF_compl cut.length 8 0 sM hM.1 hM.2 hvl
    rw [show pw choose.length - 1 - sM = sY by omega] at c1
    rw [show pw cut.length - 1 - sM = sY by omega] at c2 c3
    have r1 := bs_range choose sM hv.2.1.2
    have r2 := bs_range cut sY hv.1.2
    have t1 := tot_range (hi := 100) (by omega) hv.1.2
    have t2 := tot_range (hi := 100) (by omega) hv.2.1.2
    have hd : (best cut).2 = if tot cut - 2 * bs cut (best cut).1 < 2 * bs cut (best cut).1 - tot cut then 2 * bs cut (best cut).1 - tot cut else tot cut - 2 * bs cut (best cut).1 := b1
    have dr := dst_range cut hv.1.2 (best cut).1
    rw [← b1] at dr
    have hq : 2 * bs cut sY ≥ tot cut - (best cut).2 := by
      rcases hor with e2 | e2
      · rw [← e2] at hd; split at hd <;> omega
      · rw [← e2] at hd; split at hd <;> omega
    refine EvS.step (fun k => by rw [laws_FnCutAndChoose.l1]) ?_
    rw [show acc = bs cut sY by omega, w64 (x := 2 * bs choose sM) (by omega) (by omega), w64 (x := 2 * bs cut sY) (by omega) (by omega), w64 (x := ((memF 8 0 sM).length : Int) + (memF 8 0 sY).length) (by omega) (by omega)]
    have etp := impl_TwoPiles_ok cut (by omega)
    rw [tp, if_pos hv.1] at etp
    refine EvS.neg (by have := h.ge; omega) (EvS.bindv etp (EvS.bindv (laws_total_ok choose (by omega) (fun x hx => by have := hv.2.1.2 x hx; omega)) (EvS.pos (by omega) (EvS.bindv (laws_total_ok cut (by omega) (fun x hx => by have := hv.1.2 x hx; omega)) ?_))))
    dsimp only
    rw [w64 (x := tot cut - (best cut).2) (by omega) (by omega)]
    exact EvS.pos hq (EvS.pos (by omega) (EvS.bindv (ascends_ok _ (by omega) (memF_sorted 8 0 sM)) (EvS.pos rfl (EvS.bindv (ascends_ok _ (by omega) (memF_sorted 8 0 sY)) (EvS.now rfl)))))
  | cons y ys ih =>
    intro i acc h e a0 a1
    have k1 := h.lt
    have k2 := h.nonneg
    have y0 := memF_ge _ _ _ y h.mem
    have y1 := memF_lt 8 0 sY cut.length hY.1 hY.2 hvl y h.mem
    have hr := rd_range hv.1.2 y y0 (by omega)
    simp only [wsm] at e
    refine EvS.step (fun k => by rw [laws_FnCutAndChoose.l1]) ?_
    refine EvS.pos h.lt (EvS.pos h.nonneg ?_)
    rw [At.rd h, w64 (x := acc + rd cut y) (by omega) (by omega), w64 (x := i + 1) (by omega) (by omega)]
    exact EvS.pos y0 (EvS.pos (by omega) (ih _ _ h.next (by omega) (by omega) (by omega)))
theorem law_l0 (ys : List Int) : ∀ i acc : Int, At (memF 8 0 sM) i ys → acc + wsm choose ys = bs choose sM → 0 ≤ acc → acc ≤ 100 * i → EvS (fun k => laws_FnCutAndChoose.l0 k cut choose (memF 8 0 sM) (memF 8 0 sY) acc i) (· = true) := by
  have hvl := hv.1.1
  have hvl2 := hv.2.1.1
  have hcl := hv.2.2
  have hml := memF_length 8 0 sM
  induction ys with
  | nil =>
    intro i acc h e a0 a1
    simp only [wsm] at e
    refine EvS.step (fun k => by rw [laws_FnCutAndChoose.l0]) ?_
    rw [show acc = bs choose sM by omega]
    exact EvS.neg (by have := h.ge; omega) (law_l1 cut choose hv sM sY hM hY hsum hge hor _ 0 0 (At.zero _) (by rw [memF_sum cut cut 8 0 sY (At.zero _) hY.1 hY.2 hvl]; omega) (by omega) (by omega))
  | cons y ys ih =>
    intro i acc h e a0 a1
    have k1 := h.lt
    have k2 := h.nonneg
    have y0 := memF_ge _ _ _ y h.mem
    have y1 := memF_lt 8 0 sM cut.length hM.1 hM.2 hvl y h.mem
    have hr := rd_range hv.2.1.2 y y0 (by omega)
    simp only [wsm] at e
    refine EvS.step (fun k => by rw [laws_FnCutAndChoose.l0]) ?_
    refine EvS.pos h.lt (EvS.pos h.nonneg ?_)
    rw [At.rd h, w64 (x := acc + rd choose y) (by omega) (by omega), w64 (x := i + 1) (by omega) (by omega)]
    exact EvS.pos y0 (EvS.pos (by omega) (ih _ _ h.next (by omega) (by omega) (by omega)))
end
theorem FnCutAndChoose : laws_FnCutAndChoose.Pure := by
  intro l0 _ _ hw
  refine EvS.holds ?_
  simp only [laws_FnCutAndChoose.f]
  refine EvS.ite (fun _ => EvS.now rfl) (fun _ => ?_)
  refine EvS.bind (draw_ok l0 (fun x hx => u8_range (hw x hx))) ?_
  rintro ⟨cut, choose⟩ ⟨h1, h2⟩
  dsimp only at h1 h2 ⊢
  have hl := ca_len cut choose
  have e1 := equalInts_ok (ca cut choose).1 (by omega)
  have e2 := equalInts_ok (ca cut choose).2 (by omega)
  refine EvS.bindv (impl_CutAndChoose_ok cut choose (by omega) (by omega)) (EvS.bindv (spec_CutAndChoose_ok cut choose (by omega) (by omega)) (EvS.bindv e1 (EvS.pos rfl (EvS.bindv e2 (EvS.pos rfl ?_)))))
  refine EvS.step (fun k => by rw [laws_FnCutAndChoose.j0]) ?_
  refine EvS.ite (fun c => EvS.bindv e1 (EvS.pos rfl (EvS.bindv e2 (EvS.now rfl)))) (fun c => ?_)
  by_cases hv : VCut cut choose
  · obtain ⟨b1, b2, b3, b4⟩ := best_ok cut hv.1.2
    have ho := other_range hv.1
    have hpc : pw choose.length = pw cut.length := by rw [hv.2.2]
    have hos : (best cut).1 + other cut = pw cut.length - 1 := by unfold other; omega
    rw [ca, if_pos hv]
    by_cases hc : bs choose (best cut).1 ≥ bs choose (other cut)
    · simp only [if_pos hc]
      exact law_l0 cut choose hv (best cut).1 (other cut) ⟨b2, b3⟩ ho hos hc (.inr rfl) _ 0 0 (At.zero _) (by rw [memF_sum choose choose 8 0 _ (At.zero _) b2 (by omega) hv.2.1.1]; omega) (by omega) (by omega)
    · simp only [if_neg hc]
      exact law_l0 cut choose hv (other cut) (best cut).1 ho ⟨b2, b3⟩ (by omega) (by omega) (.inl rfl) _ 0 0 (At.zero _) (by rw [memF_sum choose choose 8 0 _ (At.zero _) ho.1 (by omega) hv.2.1.1]; omega) (by omega) (by omega)
  · exfalso
    rw [ca, if_neg hv] at c
    simp [wrap64] at c
end Go.Proofs.Ytjfelimfppcgmaa.Pure
