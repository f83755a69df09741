/- PayClaims is what the reference tells, for all claims and boxes. Conditions: none. -/
import Derived.Test.YtjfelimfppcgmaaPFnExactPayClaimsx0
import Derived.Test.YtjfelimfppcgmaaPFnExactPayClaimsx1
import Derived.Test.YtjfelimfppcgmaaMFnExactPayClaimsx2
import Derived.Test.YtjfelimfppcgmaaMFnExactPayClaimsx3
import Derived.Test.YtjfelimfppcgmaaMFnExactPayClaimsx4
import Derived.Test.YtjfelimfppcgmaaMFnExactPayClaimsx5
import Derived.Test.YtjfelimfppcgmaaMFnExactPayClaimsx6
import Derived.Test.YtjfelimfppcgmaaBase
set_option linter.unusedVariables false
set_option linter.unusedSimpArgs false
namespace Go.Proofs.Ytjfelimfppcgmaa.Pure
open Go.RowKit Go.Proofs.Ytjfelimfppcgmaa.PFnExactPayClaims Go.Proofs.YtjfelimfppcgmaaW.PrintWords Go.Proofs.YtjfelimfppcgmaaW.PrintLast Go.Proofs.YtjfelimfppcgmaaW.PrintMore Go.Proofs.Ytjfelimfppcgmaa.Base
theorem u8_range {x : Int} (h : (Lit.int .u8 x).wf = true) : 0 ≤ x ∧ x ≤ 255 := by
  simp [Lit.wf, IntKind.min, IntKind.max, IntKind.bits, IntKind.signed] at h
  omega
/-! ## Lists of numbers. -/
theorem inRange_eq (n lo hi : Int) : spec_inRange.f n lo hi = some (decide (lo ≤ n ∧ n ≤ hi)) := by
  unfold spec_inRange.f
  split
  · exact congrArg some (decide_eq_decide.2 (by omega))
  · exact congrArg some (decide_eq_false (by omega)).symm
def AllW (xs : List Int) (lo hi : Int) : Prop := ∀ x ∈ xs, lo ≤ x ∧ x ≤ hi
instance (xs : List Int) (lo hi : Int) : Decidable (AllW xs lo hi) := by unfold AllW; infer_instance
theorem allW_cons (y : Int) (ys : List Int) (lo hi : Int) : AllW (y :: ys) lo hi ↔ (lo ≤ y ∧ y ≤ hi) ∧ AllW ys lo hi := by
  unfold AllW; simp
/-- The first place of a number, counted from i on; -1 if it is not there. -/
def posF (v : Int) : Int → List Int → Int
  | _, [] => -1
  | i, x :: xs => if x = v then i else posF v (i + 1) xs
theorem posF_range (v : Int) (xs : List Int) : ∀ i : Int, 0 ≤ i → (v ∈ xs → i ≤ posF v i xs ∧ posF v i xs < i + xs.length) ∧ (v ∉ xs → posF v i xs = -1) := by
  induction xs with
  | nil => intro i h0; exact ⟨fun h => by simp at h, fun _ => rfl⟩
  | cons x xs ih =>
    intro i h0
    have h := ih (i + 1) (by omega)
    simp only [posF, List.length_cons]
    by_cases c : x = v
    · rw [if_pos c]; exact ⟨fun _ => by omega, fun g => absurd (by simp [c]) g⟩
    · rw [if_neg c]
      refine ⟨fun g => ?_, fun g => h.2 (fun g2 => g (List.mem_cons_of_mem _ g2))⟩
      have := h.1 ((List.mem_cons.1 g).resolve_left (fun e => c e.symm))
      omega
theorem posF_nonneg (v : Int) (xs : List Int) (i : Int) (h : 0 ≤ i) : (0 ≤ posF v i xs) ↔ v ∈ xs := by
  by_cases c : v ∈ xs
  · have := (posF_range v xs i h).1 c; exact ⟨fun _ => c, fun _ => by omega⟩
  · have := (posF_range v xs i h).2 c; exact ⟨fun g => by omega, fun g => absurd g c⟩
/-- Different numbers from 0 to n - 1. -/
def Diff (xs : List Int) (n : Int) : Prop := xs.Nodup ∧ ∀ x ∈ xs, 0 ≤ x ∧ x < n
instance (xs : List Int) (n : Int) : Decidable (Diff xs n) := by unfold Diff; infer_instance
def DiffF (pre ys : List Int) (n : Int) : Prop := ys.Nodup ∧ ∀ y ∈ ys, 0 ≤ y ∧ y < n ∧ y ∉ pre
instance (pre ys : List Int) (n : Int) : Decidable (DiffF pre ys n) := by unfold DiffF; infer_instance
theorem diffF_cons (pre : List Int) (y : Int) (ys : List Int) (n : Int) : DiffF pre (y :: ys) n ↔ (0 ≤ y ∧ y < n ∧ y ∉ pre) ∧ DiffF (y :: pre) ys n := by
  unfold DiffF
  constructor
  · rintro ⟨h1, h2⟩
    have h1 := List.nodup_cons.1 h1
    refine ⟨h2 y List.mem_cons_self, h1.2, fun z hz => ?_⟩
    have := h2 z (List.mem_cons_of_mem _ hz)
    refine ⟨this.1, this.2.1, fun hm => ?_⟩
    rcases List.mem_cons.1 hm with rfl | hm
    · exact h1.1 hz
    · exact this.2.2 hm
  · rintro ⟨h1, h2, h3⟩
    refine ⟨List.nodup_cons.2 ⟨fun hm => (h3 y hm).2.2 List.mem_cons_self, h2⟩, fun z hz => ?_⟩
    rcases List.mem_cons.1 hz with rfl | hz
    · exact h1
    · have := h3 z hz
      exact ⟨this.1, this.2.1, fun hm => this.2.2 (List.mem_cons_of_mem _ hm)⟩
theorem diffF_congr {p q ys : List Int} {n : Int} (h : ∀ x, x ∈ p ↔ x ∈ q) : DiffF p ys n ↔ DiffF q ys n := by
  unfold DiffF
  simp only [h]
theorem diffF_nil (xs : List Int) (n : Int) : DiffF [] xs n ↔ Diff xs n := by
  unfold DiffF Diff; simp
theorem diff_len {xs : List Int} {n : Int} (h : Diff xs n) : (xs.length : Int) ≤ n ∨ xs = [] := by
  rcases xs with _ | ⟨x, xs⟩
  · exact .inr rfl
  · left
    have h1 : 0 ≤ n := by have := h.2 x List.mem_cons_self; omega
    have h2 : (x :: xs) ⊆ (List.range n.toNat).map (fun m : Nat => (m : Int)) := by
      intro y hy
      have := h.2 y hy
      exact List.mem_map.2 ⟨y.toNat, List.mem_range.2 (by omega), by omega⟩
    have h3 := h.1.length_le_of_subset h2
    rw [List.length_map, List.length_range] at h3
    omega
/-! ## Bodies that vote. -/
def tot : List Int → Int
  | [] => 0
  | x :: xs => x + tot xs
theorem tot_range {xs : List Int} {hi : Int} (h0 : 0 ≤ hi) (h : AllW xs 0 hi) : 0 ≤ tot xs ∧ tot xs ≤ xs.length * hi := by
  induction xs with
  | nil => simp [tot]
  | cons x xs ih =>
    have h1 := (allW_cons _ _ _ _).1 h
    have h2 := ih h1.2
    simp only [tot, List.length_cons, Int.natCast_add, Int.add_mul]
    omega
theorem tot_bound {xs : List Int} (h : ∀ x ∈ xs, -1000000000000 ≤ x ∧ x ≤ 1000000000000) : -(1000000000000 * (xs.length : Int)) ≤ tot xs ∧ tot xs ≤ 1000000000000 * xs.length := by
  induction xs with
  | nil => simp [tot]
  | cons x xs ih =>
    have h1 := h x List.mem_cons_self
    have h2 := ih (fun y hy => h y (List.mem_cons_of_mem _ hy))
    simp only [tot, List.length_cons]
    omega
/-! ## Claims, class by class: plain lists. -/
theorem at_rdC {xs ys : List S30} {i : Int} {y : S30} (h : At xs i (y :: ys)) : rd_T30 xs i = y := h.getD _
def VC (x : S30) : Prop := 0 ≤ x.f0 ∧ x.f0 ≤ 4 ∧ 0 ≤ x.f1 ∧ x.f1 ≤ 100000
instance (x : S30) : Decidable (VC x) := by unfold VC; infer_instance
def VCs (l : List S30) : Prop := l.length ≤ 20 ∧ ∀ x ∈ l, VC x
instance (l : List S30) : Decidable (VCs l) := by unfold VCs; infer_instance
def csum (c : Int) : List S30 → Int
  | [] => 0
  | x :: xs => (if x.f0 = c then x.f1 else 0) + csum c xs
def gsum (c : Int) (g : Int → Int) : List S30 → Int
  | [] => 0
  | x :: xs => (if x.f0 = c then g x.f1 else 0) + gsum c g xs
def psum (c : Int) : List S30 → List Int → Int
  | x :: xs, p :: ps => (if x.f0 = c then p else 0) + psum c xs ps
  | _, _ => 0
def flo (c : Int) (g : Int → Int) : List S30 → List Int → List Int
  | x :: xs, p :: ps => (if x.f0 = c then g x.f1 else p) :: flo c g xs ps
  | _, ps => ps
def bump (c : Int) (m : Int → Bool) : Int → List S30 → List Int → List Int
  | rest, x :: xs, p :: ps => if x.f0 = c ∧ 0 < rest ∧ m x.f1 = true then (p + 1) :: bump c m (rest - 1) xs ps else p :: bump c m rest xs ps
  | _, _, ps => ps
def brest (c : Int) (m : Int → Bool) : Int → List S30 → Int
  | rest, x :: xs => if x.f0 = c ∧ 0 < rest ∧ m x.f1 = true then brest c m (rest - 1) xs else brest c m rest xs
  | rest, [] => rest
def cnt (c : Int) (m : Int → Bool) : List S30 → Int
  | [] => 0
  | x :: xs => (if x.f0 = c ∧ m x.f1 = true then 1 else 0) + cnt c m xs
theorem csum_range (c : Int) (l : List S30) (h : ∀ x ∈ l, VC x) : 0 ≤ csum c l ∧ csum c l ≤ 100000 * (l.length : Int) := by
  induction l with
  | nil => simp [csum]
  | cons x xs ih =>
    have h1 := ih (fun y hy => h y (List.mem_cons_of_mem _ hy))
    obtain ⟨_, _, a, b⟩ := h x List.mem_cons_self
    simp only [csum, List.length_cons]
    split <;> omega
theorem gsum_range (c : Int) (g : Int → Int) (l : List S30) (h : ∀ x ∈ l, x.f0 = c → 0 ≤ g x.f1 ∧ g x.f1 ≤ 100000) : 0 ≤ gsum c g l ∧ gsum c g l ≤ 100000 * (l.length : Int) := by
  induction l with
  | nil => simp [gsum]
  | cons x xs ih =>
    have h1 := ih (fun y hy => h y (List.mem_cons_of_mem _ hy))
    have h2 := h x List.mem_cons_self
    simp only [gsum, List.length_cons]
    split
    · rename_i e; have := h2 e; omega
    · omega
theorem gsum_id (c : Int) (l : List S30) : gsum c (fun a => a) l = csum c l := by
  induction l with
  | nil => rfl
  | cons x xs ih => simp only [gsum, csum, ih]
theorem flo_length (c : Int) (g : Int → Int) (l : List S30) : ∀ ps : List Int, (flo c g l ps).length = ps.length := by
  induction l with
  | nil => intro ps; cases ps <;> simp [flo]
  | cons x xs ih => intro ps; cases ps with
    | nil => simp [flo]
    | cons p ps => simp [flo, ih]
theorem flo_congr (c : Int) (g h : Int → Int) (l : List S30) (e : ∀ x ∈ l, x.f0 = c → g x.f1 = h x.f1) : ∀ ps : List Int, flo c g l ps = flo c h l ps := by
  induction l with
  | nil => intro ps; cases ps <;> simp [flo]
  | cons x xs ih => intro ps; cases ps with
    | nil => simp [flo]
    | cons p ps =>
      have e1 := e x List.mem_cons_self
      simp only [flo, ih (fun y hy => e y (List.mem_cons_of_mem _ hy))]
      by_cases k : x.f0 = c
      · rw [if_pos k, if_pos k, e1 k]
      · rw [if_neg k, if_neg k]
theorem gsum_congr (c : Int) (g h : Int → Int) (l : List S30) (e : ∀ x ∈ l, x.f0 = c → g x.f1 = h x.f1) : gsum c g l = gsum c h l := by
  induction l with
  | nil => rfl
  | cons x xs ih =>
    have e1 := e x List.mem_cons_self
    simp only [gsum, ih (fun y hy => e y (List.mem_cons_of_mem _ hy))]
    by_cases k : x.f0 = c
    · rw [if_pos k, if_pos k, e1 k]
    · rw [if_neg k, if_neg k]
theorem bump_congr (c : Int) (m n : Int → Bool) (l : List S30) (e : ∀ x ∈ l, x.f0 = c → m x.f1 = n x.f1) : ∀ (rest : Int) (ps : List Int), bump c m rest l ps = bump c n rest l ps := by
  induction l with
  | nil => intro rest ps; cases ps <;> simp [bump]
  | cons x xs ih => intro rest ps; cases ps with
    | nil => simp [bump]
    | cons p ps =>
      have e1 := e x List.mem_cons_self
      have e2 := ih (fun y hy => e y (List.mem_cons_of_mem _ hy))
      simp only [bump, e2]
      by_cases k : x.f0 = c
      · rw [e1 k]
      · rw [if_neg (fun g => k g.1), if_neg (fun g => k g.1)]
theorem bump_zero (c : Int) (m : Int → Bool) (l : List S30) : ∀ (rest : Int) (ps : List Int), rest ≤ 0 → bump c m rest l ps = ps := by
  induction l with
  | nil => intro rest ps h; cases ps <;> simp [bump]
  | cons x xs ih => intro rest ps h; cases ps with
    | nil => simp [bump]
    | cons p ps => rw [bump, if_neg (by omega), ih rest ps h]
theorem brest_zero (c : Int) (m : Int → Bool) (l : List S30) : ∀ rest : Int, rest ≤ 0 → brest c m rest l = rest := by
  induction l with
  | nil => intro rest h; rfl
  | cons x xs ih => intro rest h; rw [brest, if_neg (by omega), ih rest h]
theorem bump_length (c : Int) (m : Int → Bool) (l : List S30) : ∀ (rest : Int) (ps : List Int), (bump c m rest l ps).length = ps.length := by
  induction l with
  | nil => intro rest ps; cases ps <;> simp [bump]
  | cons x xs ih => intro rest ps; cases ps with
    | nil => simp [bump]
    | cons p ps => simp only [bump]; split <;> simp [ih]
theorem cnt_nonneg (c : Int) (m : Int → Bool) (l : List S30) : 0 ≤ cnt c m l := by
  induction l with
  | nil => simp [cnt]
  | cons x xs ih => simp only [cnt]; split <;> omega
theorem brest_eq (c : Int) (m : Int → Bool) (l : List S30) : ∀ rest : Int, 0 ≤ rest → rest ≤ cnt c m l → brest c m rest l = 0 := by
  induction l with
  | nil => intro rest h0 h; simp [cnt] at h; simp [brest]; omega
  | cons x xs ih =>
    intro rest h0 h
    rw [brest]
    split
    · rename_i e
      rw [cnt, if_pos ⟨e.1, e.2.2⟩] at h
      exact ih _ (by omega) (by omega)
    · rename_i e
      by_cases z : rest = 0
      · subst z; exact brest_zero c m xs 0 (by omega)
      · rw [cnt, if_neg (fun g => e ⟨g.1, by omega, g.2⟩)] at h
        exact ih _ h0 (by omega)
theorem psum_flo (c : Int) (g : Int → Int) (l : List S30) : ∀ ps : List Int, ps.length = l.length → psum c l (flo c g l ps) = gsum c g l := by
  induction l with
  | nil => intro ps h; simp [psum, gsum]
  | cons x xs ih => intro ps h; cases ps with
    | nil => simp at h
    | cons p ps =>
      simp only [flo, psum, gsum, ih ps (by simpa using h)]
      by_cases k : x.f0 = c
      · simp only [if_pos k]
      · simp only [if_neg k]
theorem psum_flo_ne (c d : Int) (hd : d ≠ c) (g : Int → Int) (l : List S30) : ∀ ps : List Int, psum d l (flo c g l ps) = psum d l ps := by
  induction l with
  | nil => intro ps; simp [psum]
  | cons x xs ih => intro ps; cases ps with
    | nil => simp [flo]
    | cons p ps =>
      simp only [flo, psum, ih ps]
      by_cases k : x.f0 = c
      · rw [if_neg (by omega), if_neg (by omega)]
      · rw [if_neg k]
theorem psum_bump (c : Int) (m : Int → Bool) (l : List S30) : ∀ (rest : Int) (ps : List Int), ps.length = l.length → psum c l (bump c m rest l ps) + brest c m rest l = psum c l ps + rest := by
  induction l with
  | nil => intro rest ps h; simp [psum, brest]
  | cons x xs ih => intro rest ps h; cases ps with
    | nil => simp at h
    | cons p ps =>
      rw [bump, brest]
      split
      · rename_i e
        have := ih (rest - 1) ps (by simpa using h)
        simp only [psum, if_pos e.1]; omega
      · have := ih rest ps (by simpa using h)
        simp only [psum]; omega
theorem psum_bump_ne (c d : Int) (hd : d ≠ c) (m : Int → Bool) (l : List S30) : ∀ (rest : Int) (ps : List Int), psum d l (bump c m rest l ps) = psum d l ps := by
  induction l with
  | nil => intro rest ps; simp [psum]
  | cons x xs ih => intro rest ps; cases ps with
    | nil => simp [bump]
    | cons p ps =>
      rw [bump]
      split
      · rename_i e
        simp only [psum, ih, if_neg (show ¬ x.f0 = d by omega)]
      · simp only [psum, ih]
/-- Of each claim and what it gets. -/
def all2 (Q : S30 → Int → Prop) : List S30 → List Int → Prop
  | x :: xs, p :: ps => Q x p ∧ all2 Q xs ps
  | [], [] => True
  | _, _ => False
theorem all2_len {Q : S30 → Int → Prop} (l : List S30) : ∀ ps : List Int, all2 Q l ps → ps.length = l.length := by
  induction l with
  | nil => intro ps h; cases ps with | nil => rfl | cons p ps => simp [all2] at h
  | cons x xs ih => intro ps h; cases ps with | nil => simp [all2] at h | cons p ps => simp only [List.length_cons, ih ps h.2]
theorem all2_mono {Q R : S30 → Int → Prop} (l : List S30) (k : ∀ x ∈ l, ∀ p, Q x p → R x p) : ∀ ps : List Int, all2 Q l ps → all2 R l ps := by
  induction l with
  | nil => intro ps h; cases ps with | nil => trivial | cons p ps => simp [all2] at h
  | cons x xs ih => intro ps h; cases ps with
    | nil => simp [all2] at h
    | cons p ps => exact ⟨k x List.mem_cons_self p h.1, ih (fun y hy => k y (List.mem_cons_of_mem _ hy)) ps h.2⟩
theorem all2_flo {Q R : S30 → Int → Prop} (c : Int) (g : Int → Int) (l : List S30) (k1 : ∀ x ∈ l, ∀ p, Q x p → x.f0 ≠ c → R x p) (k2 : ∀ x ∈ l, x.f0 = c → R x (g x.f1)) : ∀ ps : List Int, all2 Q l ps → all2 R l (flo c g l ps) := by
  induction l with
  | nil => intro ps h; cases ps with | nil => trivial | cons p ps => simp [all2] at h
  | cons x xs ih => intro ps h; cases ps with
    | nil => simp [all2] at h
    | cons p ps =>
      refine ⟨?_, ih (fun y hy => k1 y (List.mem_cons_of_mem _ hy)) (fun y hy => k2 y (List.mem_cons_of_mem _ hy)) ps h.2⟩
      split
      · rename_i e; exact k2 x List.mem_cons_self e
      · rename_i e; exact k1 x List.mem_cons_self p h.1 e
theorem all2_bump {Q R : S30 → Int → Prop} (c : Int) (m : Int → Bool) (l : List S30) (k1 : ∀ x ∈ l, ∀ p, Q x p → R x p) (k2 : ∀ x ∈ l, ∀ p, Q x p → x.f0 = c → m x.f1 = true → R x (p + 1)) : ∀ (rest : Int) (ps : List Int), all2 Q l ps → all2 R l (bump c m rest l ps) := by
  induction l with
  | nil => intro rest ps h; cases ps with | nil => trivial | cons p ps => simp [all2] at h
  | cons x xs ih => intro rest ps h; cases ps with
    | nil => simp [all2] at h
    | cons p ps =>
      rw [bump]
      split
      · rename_i e
        exact ⟨k2 x List.mem_cons_self p h.1 e.1 e.2.2, ih (fun y hy => k1 y (List.mem_cons_of_mem _ hy)) (fun y hy => k2 y (List.mem_cons_of_mem _ hy)) _ ps h.2⟩
      · exact ⟨k1 x List.mem_cons_self p h.1, ih (fun y hy => k1 y (List.mem_cons_of_mem _ hy)) (fun y hy => k2 y (List.mem_cons_of_mem _ hy)) _ ps h.2⟩
/-- Floors and rests of a class that does not get all. -/
theorem rests (c left S : Int) (hS : 0 < S) (l : List S30) : csum c l * left = S * gsum c (fun a => a * left / S) l + gsum c (fun a => a * left % S) l ∧ gsum c (fun a => a * left % S) l ≤ S * cnt c (fun a => decide (a * left % S ≠ 0)) l - cnt c (fun a => decide (a * left % S ≠ 0)) l := by
  induction l with
  | nil => simp [csum, gsum, cnt]
  | cons x xs ih =>
    obtain ⟨h1, h2⟩ := ih
    simp only [csum, gsum, cnt]
    generalize csum c xs = C at *
    generalize gsum c (fun a => a * left / S) xs = G at *
    generalize gsum c (fun a => a * left % S) xs = R at *
    generalize cnt c (fun a => decide (a * left % S ≠ 0)) xs = N at *
    have e := Int.mul_ediv_add_emod (x.f1 * left) S
    have r0 := Int.emod_nonneg (x.f1 * left) (show S ≠ 0 by omega)
    have r1 := Int.emod_lt_of_pos (x.f1 * left) hS
    by_cases k : x.f0 = c
    · simp only [if_pos k]
      rw [Int.add_mul, Int.mul_add, h1]
      refine ⟨by omega, ?_⟩
      by_cases z : x.f1 * left % S = 0
      · rw [if_neg (by simp [z]), Int.zero_add]
        omega
      · rw [if_pos ⟨k, by simp [z]⟩, Int.mul_add]; omega
    · simp only [if_neg k]
      rw [if_neg (fun g => k g.1)]
      rw [Int.zero_add, Int.zero_add, Int.zero_add, Int.zero_add]
      exact ⟨h1, h2⟩
theorem rest_le (c left : Int) (l : List S30) (h0 : 0 ≤ left) (h : left < csum c l) :
    0 ≤ left - gsum c (fun a => a * left / csum c l) l ∧ left - gsum c (fun a => a * left / csum c l) l ≤ cnt c (fun a => decide (a * left % csum c l ≠ 0)) l := by
  have hr := rests c left (csum c l) (by omega) l
  have hm : 0 ≤ gsum c (fun a => a * left % csum c l) l := by
    have key : ∀ (S : Int) (xs : List S30), 0 < S → 0 ≤ gsum c (fun a => a * left % S) xs := by
      intro S xs hS
      induction xs with
      | nil => simp [gsum]
      | cons x xs ih =>
        have := Int.emod_nonneg (x.f1 * left) (show S ≠ 0 by omega)
        simp only [gsum]; split <;> omega
    exact key _ _ (by omega)
  have hN := cnt_nonneg c (fun a => decide (a * left % csum c l ≠ 0)) l
  generalize gsum c (fun a => a * left % csum c l) l = R at *
  generalize gsum c (fun a => a * left / csum c l) l = G at *
  generalize cnt c (fun a => decide (a * left % csum c l ≠ 0)) l = N at *
  generalize csum c l = S at *
  obtain ⟨e1, e2⟩ := hr
  have e3 : S * (left - G) = R := by rw [Int.mul_sub]; omega
  constructor
  · by_cases k : left - G < 0
    · have := Int.mul_le_mul_of_nonneg_left (show left - G ≤ -1 by omega) (show 0 ≤ S by omega)
      omega
    · omega
  · by_cases k : N < left - G
    · exfalso
      have a := Int.mul_le_mul_of_nonneg_left (show N + 1 ≤ left - G by omega) (show 0 ≤ S by omega)
      rw [Int.mul_add] at a
      omega
    · omega

/-- One class is paid. -/
def gOf (c left : Int) (l : List S30) (a : Int) : Int := if left ≥ csum c l then a else a * left / csum c l
def roundPs (c left : Int) (l : List S30) (ps : List Int) : List Int :=
  if left ≥ csum c l then flo c (gOf c left l) l ps else bump c (fun a => decide (a * left % csum c l ≠ 0)) (left - gsum c (gOf c left l) l) l (flo c (gOf c left l) l ps)
def roundLeft (c left : Int) (l : List S30) : Int := if left ≥ csum c l then left - csum c l else 0
/-- What is left for class n, and what all have got before it. -/
def lft (box : Int) (l : List S30) : Nat → Int
  | 0 => box
  | n + 1 => roundLeft n (lft box l n) l
def psn (box : Int) (l : List S30) : Nat → List Int
  | 0 => List.replicate l.length 0
  | n + 1 => roundPs n (lft box l n) l (psn box l n)
theorem lft_range (box : Int) (h0 : 0 ≤ box) (l : List S30) (hv : ∀ x ∈ l, VC x) (n : Nat) : 0 ≤ lft box l n ∧ lft box l n ≤ box := by
  induction n with
  | zero => exact ⟨h0, Int.le_refl _⟩
  | succ n ih =>
    have := (csum_range n l hv).1
    simp only [lft, roundLeft]
    split <;> omega
theorem gOf_range (c left : Int) (l : List S30) (h0 : 0 ≤ left) (a : Int) (ha : 0 ≤ a) : 0 ≤ gOf c left l a ∧ gOf c left l a ≤ a := by
  unfold gOf
  split
  · omega
  · have h1 : 0 ≤ a * left := Int.mul_nonneg ha h0
    refine ⟨Int.ediv_nonneg h1 (by omega), Int.ediv_le_of_le_mul (by omega) ?_⟩
    exact Int.mul_le_mul_of_nonneg_left (by omega) ha
/-- What a claim gets in the end, by what is left for its class. -/
def Fin2 (box : Int) (l : List S30) (n : Nat) (x : S30) (p : Int) : Prop :=
  if lft box l n ≥ csum n l then p = x.f1 else (p = x.f1 * lft box l n / csum n l ∨ (p = x.f1 * lft box l n / csum n l + 1 ∧ x.f1 * lft box l n % csum n l ≠ 0))
theorem psn_all (box : Int) (l : List S30) (hv : ∀ x ∈ l, VC x) (n : Nat) : all2 (fun x p => (∀ m : Nat, x.f0 = m → m < n → Fin2 box l m x p) ∧ ((n : Int) ≤ x.f0 → p = 0)) l (psn box l n) := by
  induction n with
  | zero =>
    simp only [psn]
    have key : ∀ xs : List S30, all2 (fun x p => (∀ m : Nat, x.f0 = m → m < 0 → Fin2 box l m x p) ∧ (((0 : Nat) : Int) ≤ x.f0 → p = 0)) xs (List.replicate xs.length 0) := by
      intro xs
      induction xs with
      | nil => trivial
      | cons x xs ih => exact ⟨⟨fun m _ h => by omega, fun _ => rfl⟩, ih⟩
    exact key l
  | succ n ih =>
    simp only [psn, roundPs]
    by_cases k : lft box l n ≥ csum n l
    · rw [if_pos k]
      refine all2_flo n _ l (fun x hx p h hne => ⟨fun m e1 e2 => ?_, fun e => h.2 (by omega)⟩) (fun x hx e => ⟨fun m e1 e2 => ?_, fun e1 => by omega⟩) _ ih
      · exact h.1 m e1 (by omega)
      · obtain rfl : m = n := by omega
        unfold Fin2 gOf; rw [if_pos k, if_pos k]
    · rw [if_neg k]
      refine all2_bump (Q := fun x p => (∀ m : Nat, x.f0 = m → m < n + 1 → if m = n then p = x.f1 * lft box l n / csum n l else Fin2 box l m x p) ∧ ((n : Int) + 1 ≤ x.f0 → p = 0)) n _ l (fun x hx p h => ⟨fun m e1 e2 => ?_, fun e => h.2 (by omega)⟩) (fun x hx p h e hm => ⟨fun m e1 e2 => ?_, fun e1 => by omega⟩) _ _ (all2_flo n _ l (fun x hx p h hne => ⟨fun m e1 e2 => ?_, fun e => h.2 (by omega)⟩) (fun x hx e => ⟨fun m e1 e2 => ?_, fun e1 => by omega⟩) _ ih)
      · have := h.1 m e1 e2
        by_cases z : m = n
        · subst z; rw [if_pos rfl] at this; unfold Fin2; rw [if_neg k]; exact .inl this
        · rw [if_neg z] at this; exact this
      · obtain rfl : m = n := by omega
        have := h.1 m e1 e2
        rw [if_pos rfl] at this
        unfold Fin2; rw [if_neg k]
        exact .inr ⟨by omega, of_decide_eq_true hm⟩
      · rw [if_neg (by omega)]; exact h.1 m e1 (by omega)
      · obtain rfl : m = n := by omega
        rw [if_pos rfl]; unfold gOf; rw [if_neg k]
theorem psn_len (box : Int) (l : List S30) (n : Nat) : (psn box l n).length = l.length := by
  induction n with
  | zero => simp [psn]
  | succ n ih =>
    simp only [psn, roundPs]
    split
    · rw [flo_length, ih]
    · rw [bump_length, flo_length, ih]
theorem psn_sum (box : Int) (h0 : 0 ≤ box) (l : List S30) (hv : ∀ x ∈ l, VC x) (n : Nat) : ∀ m : Nat, m < n → psum m l (psn box l n) = if lft box l m ≥ csum m l then csum m l else lft box l m := by
  induction n with
  | zero => intro m hm; omega
  | succ n ih =>
    intro m hm
    simp only [psn, roundPs]
    by_cases z : m = n
    · subst z
      by_cases k : lft box l m ≥ csum m l
      · rw [if_pos k, if_pos k, psum_flo _ _ _ _ (psn_len box l m)]
        have : gsum m (gOf m (lft box l m) l) l = gsum m (fun a => a) l := gsum_congr _ _ _ _ (fun x _ _ => by unfold gOf; rw [if_pos k])
        rw [this, gsum_id]
      · rw [if_neg k, if_neg k]
        have hr := rest_le m (lft box l m) l (lft_range box h0 l hv m).1 (by omega)
        have hg : gsum m (gOf m (lft box l m) l) l = gsum m (fun a => a * lft box l m / csum m l) l := gsum_congr _ _ _ _ (fun x _ _ => by unfold gOf; rw [if_neg k])
        have hb := psum_bump m (fun a => decide (a * lft box l m % csum m l ≠ 0)) l (lft box l m - gsum m (gOf m (lft box l m) l) l) (flo m (gOf m (lft box l m) l) l (psn box l m)) (by rw [flo_length, psn_len])
        rw [psum_flo _ _ _ _ (psn_len box l m), hg, brest_eq _ _ _ _ hr.1 hr.2] at hb
        rw [hg]
        omega
    · have := ih m (by omega)
      split
      · rw [psum_flo_ne _ _ (by omega), this]
      · rw [psum_bump_ne _ _ (by omega), psum_flo_ne _ _ (by omega), this]
/-! ## The walks over claims. -/
theorem At.set_next {s zs : List Int} {i z v : Int} (h : At s i (z :: zs)) : At (s.set i.toNat v) (i + 1) zs := by
  have h0 := h.nonneg
  have h1 := h.lt
  refine ⟨by omega, by simp; omega, ?_⟩
  rw [show (i + 1).toNat = i.toNat + 1 by omega, List.drop_set_of_lt (by omega)]
  have := h.next.drop
  rwa [show (i + 1).toNat = i.toNat + 1 by omega] at this
theorem At.set_take {s zs : List Int} {i z v : Int} (h : At s i (z :: zs)) : (s.set i.toNat v).take (i + 1).toNat = s.take i.toNat ++ [v] := by
  have h0 := h.nonneg
  have h1 := h.lt
  rw [show (i + 1).toNat = i.toNat + 1 by omega, List.take_add_one, List.take_set_of_le (by omega), List.getElem?_set_self (by omega)]
  rfl
theorem At.len2 {s zs : List Int} {ys xs : List S30} {i : Int} (h : At xs i ys) (g : At s i zs) (e : s.length = xs.length) : zs.length = ys.length := by
  have := h.len; have := g.len; omega
theorem rd_set_self (s : List Int) (i v : Int) (h0 : 0 ≤ i) (h1 : i < s.length) : rd (s.set i.toNat v) i = v := by
  unfold rd
  rw [List.getD_eq_getElem?_getD, List.getElem?_set_self (by omega)]
  rfl
theorem set_set (s : List Int) (i : Nat) (a b : Int) : (s.set i a).set i b = s.set i b := by simp
section
variable (cs : List S30) (hv : VCs cs) (c left : Int) (h0 : 0 ≤ left) (h1 : left ≤ 1000000)
include hv h0 h1
theorem impl_pay_l2 (hlt : left < csum c cs) (ys : List S30) : ∀ (zs : List Int) (i rest : Int) (s : List Int), At cs i ys → At s i zs → s.length = cs.length → 0 ≤ rest → rest ≤ 1000000 → (∀ z ∈ zs, 0 ≤ z ∧ z ≤ 1000000) →
    EvS (fun k => impl_payClass.l2 k c left s (csum c cs) false rest cs cs.length i) (· = (brest c (fun a => decide (a * left % csum c cs ≠ 0)) rest ys, s.take i.toNat ++ bump c (fun a => decide (a * left % csum c cs ≠ 0)) rest ys zs)) := by
  have hn := hv.1
  induction ys with
  | nil =>
    intro zs i rest s h g e r0 r1 hz
    have hzl := At.len2 h g e
    have hge := g.len
    refine EvS.step (fun k => by rw [impl_payClass.l2]) ?_
    refine EvS.neg (by have := h.ge; omega) (EvS.now ?_)
    cases zs with
    | cons z zs => simp at hzl
    | nil => rw [bump, brest, List.append_nil, List.take_of_length_le (by have := h.ge; omega)]
             intro _ _ _ _ g; cases g
  | cons y ys ih =>
    intro zs i rest s h g e r0 r1 hz
    have hzl := At.len2 h g e
    have k1 := h.lt
    have k2 := h.nonneg
    have hw : wrap64 (i + 1) = i + 1 := w64 (by omega) (by omega)
    cases zs with
    | nil => simp at hzl
    | cons z zs =>
      have hy := hv.2 y h.mem
      obtain ⟨_, _, a0, a1⟩ := hy
      have hz1 := hz z List.mem_cons_self
      have p0 : 0 ≤ y.f1 * left := Int.mul_nonneg a0 h0
      have p1 : y.f1 * left ≤ 100000 * 1000000 := Int.mul_le_mul a1 h1 h0 (by omega)
      refine EvS.step (fun k => by rw [impl_payClass.l2]) ?_
      refine EvS.pos h.lt (EvS.pos h.nonneg (EvS.pos h.lt (EvS.neg (by simp) ?_)))
      rw [at_rdC h]
      refine EvS.step (fun k => by rw [impl_payClass.j3]) ?_
      by_cases hr : rest = 0
      · refine EvS.pos (by simp [hr]) (EvS.now ?_)
        rw [brest_zero _ _ _ _ (by omega), bump_zero _ _ _ _ _ (by omega), ← g.split]
      · refine EvS.neg (by simp [hr]) ?_
        rw [hw, w64 (x := y.f1 * left) (by omega) (by omega), tmod_pos _ _ p0, At.rd g, w64 (x := z + 1) (by omega) (by omega), w64 (x := rest - 1) (by omega) (by omega), bump, brest]
        by_cases kc : y.f0 = c
        · refine EvS.pos kc (EvS.neg (by omega) ?_)
          by_cases km : y.f1 * left % csum c cs = 0
          · rw [if_neg (by simp [km]), if_neg (by simp [km])]
            refine EvS.pos km (EvS.mono (ih zs (i + 1) rest s h.next g.next e r0 r1 (fun x hx => hz x (List.mem_cons_of_mem _ hx))) (fun r hr => ?_))
            rw [hr, g.take]; simp
          · rw [if_pos ⟨kc, by omega, by simp [km]⟩, if_pos ⟨kc, by omega, by simp [km]⟩]
            refine EvS.neg km (EvS.pos h.nonneg (EvS.pos (by omega) (EvS.mono (ih zs (i + 1) (rest - 1) (s.set i.toNat (z + 1)) h.next (At.set_next g) (by simpa using e) (by omega) (by omega) (fun x hx => hz x (List.mem_cons_of_mem _ hx))) (fun r hr => ?_))))
            rw [hr, At.set_take g]; simp
        · rw [if_neg (fun q => kc q.1), if_neg (fun q => kc q.1)]
          refine EvS.neg kc (EvS.mono (ih zs (i + 1) rest s h.next g.next e r0 r1 (fun x hx => hz x (List.mem_cons_of_mem _ hx))) (fun r hr => ?_))
          rw [hr, g.take]; simp
theorem impl_pay_l2_all (rest : Int) (s : List Int) (e : s.length = cs.length) : EvS (fun k => impl_payClass.l2 k c left s (csum c cs) true rest cs cs.length 0) (· = (rest, s)) := by
  have _u0 := h0
  have _u1 := h1
  have hn := hv.1
  refine EvS.step (fun k => by rw [impl_payClass.l2]) ?_
  refine EvS.ite (fun q => EvS.pos (by omega) (EvS.pos q (EvS.pos rfl ?_))) (fun q => EvS.now rfl)
  refine EvS.step (fun k => by rw [impl_payClass.j3]) ?_
  exact EvS.pos rfl (EvS.now rfl)
theorem impl_pay_l1 {P : Int × List Int → Prop} (restF : Int) (hF0 : -10000000 ≤ restF) (hF1 : restF ≤ 10000000) (sF : List Int) (hk : EvS (fun k => impl_payClass.l2 k c left sF (csum c cs) (decide (left ≥ csum c cs)) restF cs cs.length 0) P) (ys : List S30) : ∀ (zs : List Int) (i : Int) (s : List Int), At cs i ys → At s i zs → s.length = cs.length → s.take i.toNat ++ flo c (gOf c left cs) ys zs = sF →
    EvS (fun k => impl_payClass.l1 k cs c left s (csum c cs) (decide (left ≥ csum c cs)) (restF + gsum c (gOf c left cs) ys) cs cs.length i) P := by
  have hn := hv.1
  induction ys with
  | nil =>
    intro zs i s h g e hs
    have hzl := At.len2 h g e
    refine EvS.step (fun k => by rw [impl_payClass.l1]) ?_
    refine EvS.neg (by have := h.ge; omega) ?_
    have : s = sF := by
      rw [← hs]
      cases zs with
      | cons z zs => simp at hzl
      | nil => simp [flo]; rw [List.take_of_length_le (by have := h.ge; omega)]
    rw [this, gsum, Int.add_zero]
    exact hk
  | cons y ys ih =>
    intro zs i s h g e hs
    have hzl := At.len2 h g e
    have k1 := h.lt
    have k2 := h.nonneg
    have hl := h.len
    have hw : wrap64 (i + 1) = i + 1 := w64 (by omega) (by omega)
    cases zs with
    | nil => simp at hzl
    | cons z zs =>
      have hy := hv.2 y h.mem
      obtain ⟨_, _, a0, a1⟩ := hy
      have p0 : 0 ≤ y.f1 * left := Int.mul_nonneg a0 h0
      have p1 : y.f1 * left ≤ 100000 * 1000000 := Int.mul_le_mul a1 h1 h0 (by omega)
      have hg := gOf_range c left cs h0 y.f1 a0
      have hgs := gsum_range c (gOf c left cs) ys (fun x hx _ => by
        have hx2 := hv.2 x (h.sub x (List.mem_cons_of_mem _ hx))
        have := gOf_range c left cs h0 x.f1 hx2.2.2.1
        have := hx2.2.2.2
        omega)
      simp only [List.length_cons] at hl
      refine EvS.step (fun k => by rw [impl_payClass.l1]) ?_
      refine EvS.pos h.lt (EvS.pos h.nonneg (EvS.pos h.lt ?_))
      rw [at_rdC h, hw]
      simp only [gsum]
      rw [flo] at hs
      by_cases kc : y.f0 = c
      · rw [if_pos kc] at hs ⊢
        have hnext := ih zs (i + 1) (s.set i.toNat (gOf c left cs y.f1)) h.next (At.set_next g) (by simpa using e) (by rw [At.set_take g, ← hs]; simp)
        refine EvS.pos kc (EvS.pos (by omega) (EvS.onsome ?_))
        rw [rd_set_self _ _ _ k2 (by omega)]
        by_cases ke : left ≥ csum c cs
        · have hgy : gOf c left cs y.f1 = y.f1 := by unfold gOf; rw [if_pos ke]
          rw [hgy] at hnext ⊢
          refine EvS.pos (decide_eq_true ke) ?_
          rw [w64 (x := restF + (y.f1 + gsum c (gOf c left cs) ys) - y.f1) (by omega) (by omega), show restF + (y.f1 + gsum c (gOf c left cs) ys) - y.f1 = restF + gsum c (gOf c left cs) ys by omega]
          exact hnext
        · have hgy : gOf c left cs y.f1 = y.f1 * left / csum c cs := by unfold gOf; rw [if_neg ke]
          rw [hgy] at hnext hg ⊢
          refine EvS.neg (by simpa using ke) (EvS.neg (by omega) (EvS.onsome ?_))
          rw [w64 (x := y.f1 * left) (by omega) (by omega), tdiv_pos _ _ p0, w64 (x := y.f1 * left / csum c cs) (by omega) (by omega), set_set, rd_set_self _ _ _ k2 (by omega), w64 (x := restF + (y.f1 * left / csum c cs + gsum c (gOf c left cs) ys) - y.f1 * left / csum c cs) (by omega) (by omega), show restF + (y.f1 * left / csum c cs + gsum c (gOf c left cs) ys) - y.f1 * left / csum c cs = restF + gsum c (gOf c left cs) ys by omega]
          exact hnext
      · rw [if_neg kc] at hs ⊢
        rw [Int.zero_add]
        refine EvS.neg kc (ih zs (i + 1) s h.next g.next e ?_)
        rw [g.take, ← hs]; simp
theorem impl_pay_l0 {P : Int × List Int → Prop} (ps : List Int) (hk : EvS (fun k => impl_payClass.l1 k cs c left ps (csum c cs) (decide (left ≥ csum c cs)) left cs cs.length 0) P) (ys : List S30) : ∀ (i acc : Int), At cs i ys → acc + csum c ys = csum c cs →
    EvS (fun k => impl_payClass.l0 k cs c left ps acc cs cs.length i) P := by
  have _u0 := h0
  have _u1 := h1
  have hn := hv.1
  induction ys with
  | nil =>
    intro i acc h e
    refine EvS.step (fun k => by rw [impl_payClass.l0]) ?_
    refine EvS.neg (by have := h.ge; omega) ?_
    obtain rfl : acc = csum c cs := by simp [csum] at e; exact e
    exact hk
  | cons y ys ih =>
    intro i acc h e
    have hy := hv.2 y h.mem
    have hc := csum_range c cs hv.2
    have hc2 := csum_range c ys (fun x hx => hv.2 x (h.sub x (List.mem_cons_of_mem _ hx)))
    have hl := h.len
    have k2 := h.nonneg
    simp only [List.length_cons] at hl
    refine EvS.step (fun k => by rw [impl_payClass.l0]) ?_
    refine EvS.pos h.lt (EvS.pos h.nonneg (EvS.pos h.lt ?_))
    rw [at_rdC h]
    simp only [csum] at e
    obtain ⟨_, _, a0, a1⟩ := hy
    by_cases kc : y.f0 = c
    · rw [if_pos kc] at e
      rw [w64 (x := acc + y.f1) (by omega) (by omega)]
      exact EvS.pos kc (ih _ _ (h.wnext (by omega)) (by omega))
    · rw [if_neg kc] at e
      exact EvS.neg kc (ih _ _ (h.wnext (by omega)) (by omega))
theorem impl_payClass_ok (ps : List Int) (e : ps.length = cs.length) (hp : ∀ p ∈ ps, 0 ≤ p ∧ p ≤ 1000000) :
    EvS (fun k => impl_payClass.f k cs c left ps) (· = (roundLeft c left cs, roundPs c left cs ps)) := by
  simp only [impl_payClass.f]
  refine impl_pay_l0 cs hv c left h0 h1 ps ?_ cs 0 0 (At.zero _) (by omega)
  have hc := csum_range c cs hv.2
  have hn := hv.1
  have hgs := gsum_range c (gOf c left cs) cs (fun x hx _ => by
    have hx2 := hv.2 x hx
    have := gOf_range c left cs h0 x.f1 hx2.2.2.1
    have := hx2.2.2.2
    omega)
  have := impl_pay_l1 cs hv c left h0 h1 (P := (· = (roundLeft c left cs, roundPs c left cs ps))) (left - gsum c (gOf c left cs) cs) (by omega) (by omega) (flo c (gOf c left cs) cs ps) ?_ cs ps 0 ps (At.zero _) (At.zero _) e (by simp)
  · rw [show left - gsum c (gOf c left cs) cs + gsum c (gOf c left cs) cs = left by omega] at this
    exact this
  · by_cases ke : left ≥ csum c cs
    · rw [decide_eq_true ke]
      refine EvS.mono (impl_pay_l2_all cs hv c left h0 h1 _ _ (by rw [flo_length, e])) (fun r hr => ?_)
      rw [hr, roundLeft, if_pos ke, roundPs, if_pos ke]
      have : gsum c (gOf c left cs) cs = gsum c (fun a => a) cs := gsum_congr _ _ _ _ (fun x _ _ => by unfold gOf; rw [if_pos ke])
      rw [this, gsum_id]
    · rw [decide_eq_false ke]
      have hg : gsum c (gOf c left cs) cs = gsum c (fun a => a * left / csum c cs) cs := gsum_congr _ _ _ _ (fun x _ _ => by unfold gOf; rw [if_neg ke])
      have hr := rest_le c left cs h0 (by omega)
      rw [← hg] at hr
      refine EvS.mono (impl_pay_l2 cs hv c left h0 h1 (by omega) cs (flo c (gOf c left cs) cs ps) 0 _ _ (At.zero _) (At.zero _) (by rw [flo_length, e]) hr.1 (by omega) (fun z hz => ?_)) (fun r hr2 => ?_)
      · have key : ∀ (xs : List S30) (qs : List Int), (∀ x ∈ xs, VC x) → (∀ p ∈ qs, 0 ≤ p ∧ p ≤ 1000000) → ∀ z ∈ flo c (gOf c left cs) xs qs, 0 ≤ z ∧ z ≤ 1000000 := by
          intro xs
          induction xs with
          | nil => intro qs _ hq z hz; cases qs with | nil => simp [flo] at hz | cons q qs => exact hq z (by simpa [flo] using hz)
          | cons x xs ih => intro qs hx hq z hz; cases qs with
            | nil => simp [flo] at hz
            | cons q qs =>
              rw [flo] at hz
              rcases List.mem_cons.1 hz with rfl | hz
              · have hx2 := hx x List.mem_cons_self
                have := gOf_range c left cs h0 x.f1 hx2.2.2.1
                have := hx2.2.2.2
                have := hq q List.mem_cons_self
                split <;> omega
              · exact ih qs (fun y hy => hx y (List.mem_cons_of_mem _ hy)) (fun y hy => hq y (List.mem_cons_of_mem _ hy)) z hz
        exact key cs ps hv.2 hp z hz
      · rw [hr2, roundLeft, if_neg ke, roundPs, if_neg ke, brest_eq _ _ _ _ hr.1 hr.2]; simp
theorem spec_classSum_l0 (ys : List S30) : ∀ (i acc : Int), At cs i ys → acc + csum c ys = csum c cs → EvS (fun k => spec_classSum.l0 k cs c acc i) (· = csum c cs) := by
  have _u0 := h0
  have _u1 := h1
  have hn := hv.1
  induction ys with
  | nil =>
    intro i acc h e
    refine EvS.step (fun k => by rw [spec_classSum.l0]) ?_
    exact EvS.neg (by have := h.ge; omega) (EvS.now (by simp [csum] at e; exact e))
  | cons y ys ih =>
    intro i acc h e
    have hy := hv.2 y h.mem
    have hc := csum_range c cs hv.2
    have hc2 := csum_range c ys (fun x hx => hv.2 x (h.sub x (List.mem_cons_of_mem _ hx)))
    have hl := h.len
    have k2 := h.nonneg
    simp only [List.length_cons] at hl
    refine EvS.step (fun k => by rw [spec_classSum.l0]) ?_
    refine EvS.pos h.lt (EvS.pos h.nonneg ?_)
    rw [at_rdC h]
    simp only [csum] at e
    obtain ⟨_, _, a0, a1⟩ := hy
    by_cases kc : y.f0 = c
    · rw [if_pos kc] at e
      rw [w64 (x := acc + y.f1) (by omega) (by omega)]
      exact EvS.pos kc (ih _ _ (h.wnext (by omega)) (by omega))
    · rw [if_neg kc] at e
      exact EvS.neg kc (ih _ _ (h.wnext (by omega)) (by omega))
theorem spec_classSum_ok : EvS (fun k => spec_classSum.f k cs c) (· = csum c cs) := by
  simp only [spec_classSum.f]
  exact spec_classSum_l0 cs hv c left h0 h1 cs 0 0 (At.zero _) (by omega)
theorem spec_pay_l1 (S pay : Int) (hS : 0 ≤ S) (hp0 : 0 ≤ pay) (hp1 : pay ≤ 1000000) (ys : List S30) : ∀ (zs : List Int) (i rest : Int) (s : List Int), At cs i ys → At s i zs → s.length = cs.length → 0 ≤ rest → rest ≤ 1000000 → (0 < S ∨ rest = 0) → (∀ z ∈ zs, 0 ≤ z ∧ z ≤ 1000000) →
    EvS (fun k => spec_payClass.l1 k cs c s S pay rest i) (· = s.take i.toNat ++ bump c (fun a => decide (a * pay % S ≠ 0)) rest ys zs) := by
  have _u0 := h0
  have _u1 := h1
  have hn := hv.1
  induction ys with
  | nil =>
    intro zs i rest s h g e r0 r1 rS hz
    have hzl := At.len2 h g e
    refine EvS.step (fun k => by rw [spec_payClass.l1]) ?_
    refine EvS.neg (by have := h.ge; omega) (EvS.now ?_)
    cases zs with
    | cons z zs => simp at hzl
    | nil => rw [bump, List.append_nil, List.take_of_length_le (by have := h.ge; omega)]
             intro _ _ _ _ g; cases g
  | cons y ys ih =>
    intro zs i rest s h g e r0 r1 rS hz
    have hzl := At.len2 h g e
    have k1 := h.lt
    have k2 := h.nonneg
    have hw : wrap64 (i + 1) = i + 1 := w64 (by omega) (by omega)
    cases zs with
    | nil => simp at hzl
    | cons z zs =>
      have hy := hv.2 y h.mem
      obtain ⟨_, _, a0, a1⟩ := hy
      have hz1 := hz z List.mem_cons_self
      have p0 : 0 ≤ y.f1 * pay := Int.mul_nonneg a0 hp0
      have p1 : y.f1 * pay ≤ 100000 * 1000000 := Int.mul_le_mul a1 hp1 hp0 (by omega)
      have hnx := ih zs (i + 1) rest s h.next g.next e r0 r1 rS (fun x hx => hz x (List.mem_cons_of_mem _ hx))
      rw [g.take] at hnx
      refine EvS.step (fun k => by rw [spec_payClass.l1]) ?_
      refine EvS.pos h.lt (EvS.pos h.nonneg ?_)
      rw [at_rdC h, hw, bump]
      by_cases kc : y.f0 = c
      · refine EvS.pos kc ?_
        by_cases kr : rest > 0
        · have hS0 : S ≠ 0 := by omega
          have m0 := Int.emod_nonneg (y.f1 * pay) hS0
          refine EvS.pos kr (EvS.neg hS0 ?_)
          rw [w64 (x := y.f1 * pay) (by omega) (by omega), tmod_pos _ _ p0, At.rd g, w64 (x := z + 1) (by omega) (by omega), w64 (x := rest - 1) (by omega) (by omega)]
          by_cases km : y.f1 * pay % S = 0
          · rw [if_neg (by simp [km])]
            refine EvS.neg (by omega) (EvS.mono hnx (fun r hr => ?_))
            rw [hr]; simp
          · rw [if_pos ⟨kc, kr, by simp [km]⟩]
            refine EvS.pos (by omega) (EvS.pos (by omega) (EvS.mono (ih zs (i + 1) (rest - 1) (s.set i.toNat (z + 1)) h.next (At.set_next g) (by simpa using e) (by omega) (by omega) (by omega) (fun x hx => hz x (List.mem_cons_of_mem _ hx))) (fun r hr => ?_)))
            rw [hr, At.set_take g]; simp
        · rw [if_neg (fun q => kr q.2.1)]
          refine EvS.neg kr (EvS.mono hnx (fun r hr => ?_))
          rw [hr]; simp
      · rw [if_neg (fun q => kc q.1)]
        refine EvS.neg kc (EvS.mono hnx (fun r hr => ?_))
        rw [hr]; simp
theorem spec_pay_l0 {P : List Int → Prop} (S pay : Int) (hp0 : 0 ≤ pay) (hp1 : pay ≤ 1000000) (hle : 0 < S → pay ≤ S) (g' : Int → Int) (hg' : ∀ a, g' a = a * pay / S) (restF : Int) (hF0 : -10000000 ≤ restF) (hF1 : restF ≤ 10000000) (sF : List Int) (hk : EvS (fun k => spec_payClass.l1 k cs c sF S pay restF 0) P) (hS : 0 < S) (ys : List S30) : ∀ (zs : List Int) (i : Int) (s : List Int), At cs i ys → At s i zs → s.length = cs.length → s.take i.toNat ++ flo c g' ys zs = sF →
    EvS (fun k => spec_payClass.l0 k cs c s S pay (restF + gsum c g' ys) i) P := by
  have _u0 := h0
  have _u1 := h1
  have hn := hv.1
  induction ys with
  | nil =>
    intro zs i s h g e hs
    have hzl := At.len2 h g e
    refine EvS.step (fun k => by rw [spec_payClass.l0]) ?_
    refine EvS.neg (by have := h.ge; omega) ?_
    have : s = sF := by
      rw [← hs]
      cases zs with
      | cons z zs => simp at hzl
      | nil => simp [flo]; rw [List.take_of_length_le (by have := h.ge; omega)]
    rw [this, gsum, Int.add_zero]
    exact hk
  | cons y ys ih =>
    intro zs i s h g e hs
    have hzl := At.len2 h g e
    have k1 := h.lt
    have k2 := h.nonneg
    have hl := h.len
    have hw : wrap64 (i + 1) = i + 1 := w64 (by omega) (by omega)
    cases zs with
    | nil => simp at hzl
    | cons z zs =>
      have gr : ∀ x : S30, VC x → 0 ≤ g' x.f1 ∧ g' x.f1 ≤ 100000 := by
        intro x hx
        obtain ⟨_, _, a0, a1⟩ := hx
        have b0 : 0 ≤ x.f1 * pay := Int.mul_nonneg a0 hp0
        have b1 : x.f1 * pay ≤ x.f1 * S := Int.mul_le_mul_of_nonneg_left (hle hS) a0
        have b2 : x.f1 * pay / S ≤ x.f1 := Int.ediv_le_of_le_mul hS b1
        have b3 : 0 ≤ x.f1 * pay / S := Int.ediv_nonneg b0 (by omega)
        rw [hg']; omega
      have hy := hv.2 y h.mem
      have hgy := gr y hy
      obtain ⟨_, _, a0, a1⟩ := hy
      have p0 : 0 ≤ y.f1 * pay := Int.mul_nonneg a0 hp0
      have p1 : y.f1 * pay ≤ 100000 * 1000000 := Int.mul_le_mul a1 hp1 hp0 (by omega)
      have hgs := gsum_range c g' ys (fun x hx _ => gr x (hv.2 x (h.sub x (List.mem_cons_of_mem _ hx))))
      simp only [List.length_cons] at hl
      refine EvS.step (fun k => by rw [spec_payClass.l0]) ?_
      refine EvS.pos h.lt (EvS.pos h.nonneg ?_)
      rw [at_rdC h, hw]
      simp only [gsum]
      rw [flo] at hs
      by_cases kc : y.f0 = c
      · rw [if_pos kc] at hs ⊢
        refine EvS.pos kc (EvS.pos hS (EvS.neg (by omega) (EvS.pos (by omega) (EvS.onsome ?_))))
        have hq := hg' y.f1
        rw [w64 (x := y.f1 * pay) (by omega) (by omega), tdiv_pos _ _ p0, ← hq, w64 (x := g' y.f1) (by omega) (by omega), rd_set_self _ _ _ k2 (by omega), w64 (x := restF + (g' y.f1 + gsum c g' ys) - g' y.f1) (by omega) (by omega), show restF + (g' y.f1 + gsum c g' ys) - g' y.f1 = restF + gsum c g' ys by omega]
        exact ih zs (i + 1) (s.set i.toNat (g' y.f1)) h.next (At.set_next g) (by simpa using e) (by rw [At.set_take g, ← hs]; simp)
      · rw [if_neg kc] at hs ⊢
        rw [Int.zero_add]
        refine EvS.neg kc (ih zs (i + 1) s h.next g.next e ?_)
        rw [g.take, ← hs]; simp
theorem spec_pay_l0_none {P : List Int → Prop} (pay rest : Int) (s : List Int) (hk : EvS (fun k => spec_payClass.l1 k cs c s 0 pay rest 0) P) (ys : List S30) : ∀ (i : Int), At cs i ys →
    EvS (fun k => spec_payClass.l0 k cs c s 0 pay rest i) P := by
  have _u0 := h0
  have _u1 := h1
  have hn := hv.1
  induction ys with
  | nil =>
    intro i h
    refine EvS.step (fun k => by rw [spec_payClass.l0]) ?_
    exact EvS.neg (by have := h.ge; omega) hk
  | cons y ys ih =>
    intro i h
    have hnx := ih _ (h.wnext (by omega))
    refine EvS.step (fun k => by rw [spec_payClass.l0]) ?_
    exact EvS.pos h.lt (EvS.pos h.nonneg (EvS.ite (fun _ => EvS.neg (by omega) hnx) (fun _ => hnx)))
theorem spec_payClass_ok (ps : List Int) (e : ps.length = cs.length) (hp : ∀ p ∈ ps, 0 ≤ p ∧ p ≤ 1000000) (hz : all2 (fun x p => x.f0 = c → p = 0) cs ps) :
    EvS (fun k => spec_payClass.f k cs c left ps) (· = roundPs c left cs ps) := by
  simp only [spec_payClass.f]
  refine EvS.bindv (spec_classSum_ok cs hv c left h0 h1) ?_
  have hc := csum_range c cs hv.2
  have hn := hv.1
  have hmn : mn (csum c cs) left = if left < csum c cs then left else csum c cs := rfl
  generalize hpay : mn (csum c cs) left = pay at *
  by_cases kS : csum c cs = 0
  · rw [kS]
    have hpz : pay = 0 := by rw [hmn]; split <;> omega
    subst hpz
    refine spec_pay_l0_none cs hv c left h0 h1 0 0 ps ?_ cs 0 (At.zero _)
    refine EvS.mono (spec_pay_l1 cs hv c left h0 h1 0 0 (by omega) (by omega) (by omega) cs ps 0 0 ps (At.zero _) (At.zero _) e (by omega) (by omega) (.inr rfl) hp) (fun r hr => ?_)
    · rw [hr, bump_zero _ _ _ _ _ (by omega), roundPs, if_pos (by omega)]
      have key : ∀ (xs : List S30) (qs : List Int), (∀ x ∈ xs, VC x) → csum c xs = 0 → all2 (fun x p => x.f0 = c → p = 0) xs qs → flo c (gOf c left cs) xs qs = qs := by
        intro xs
        induction xs with
        | nil => intro qs _ _ _; cases qs <;> simp [flo]
        | cons x xs ih => intro qs hx hs hq; cases qs with
          | nil => simp [flo]
          | cons q qs =>
            have c0 := csum_range c xs (fun y hy => hx y (List.mem_cons_of_mem _ hy))
            have hx1 := hx x List.mem_cons_self
            obtain ⟨_, _, a0, a1⟩ := hx1
            simp only [csum] at hs
            rw [flo]
            by_cases kc : x.f0 = c
            · rw [if_pos kc] at hs ⊢
              rw [ih qs (fun y hy => hx y (List.mem_cons_of_mem _ hy)) (by omega) hq.2, hq.1 kc]
              unfold gOf; rw [if_pos (by omega)]
              rw [show x.f1 = 0 by omega]
            · rw [if_neg kc] at hs ⊢
              rw [ih qs (fun y hy => hx y (List.mem_cons_of_mem _ hy)) (by omega) hq.2]
      rw [key cs ps hv.2 kS hz]; simp
  · have hpb : 0 ≤ pay ∧ pay ≤ 1000000 ∧ pay ≤ csum c cs := by rw [hmn]; split <;> omega
    have hgg : ∀ x ∈ cs, x.f0 = c → x.f1 * pay / csum c cs = gOf c left cs x.f1 := by
      intro x _ _
      unfold gOf
      by_cases ke : left ≥ csum c cs
      · rw [if_pos ke, hmn, if_neg (by omega), Int.mul_ediv_cancel _ (by omega)]
      · rw [if_neg ke, hmn, if_pos (by omega)]
    have hfl := flo_congr c (fun a => a * pay / csum c cs) (gOf c left cs) cs hgg ps
    have hgs := gsum_congr c (fun a => a * pay / csum c cs) (gOf c left cs) cs hgg
    have hgr := gsum_range c (gOf c left cs) cs (fun x hx _ => by
      have hx2 := hv.2 x hx
      have := gOf_range c left cs h0 x.f1 hx2.2.2.1
      have := hx2.2.2.2
      omega)
    have hrest : 0 ≤ pay - gsum c (gOf c left cs) cs ∧ (left ≥ csum c cs → pay - gsum c (gOf c left cs) cs = 0) := by
      by_cases ke : left ≥ csum c cs
      · have : gsum c (gOf c left cs) cs = gsum c (fun a => a) cs := gsum_congr _ _ _ _ (fun x _ _ => by unfold gOf; rw [if_pos ke])
        rw [this, gsum_id, hmn, if_neg (by omega)]; omega
      · have hg : gsum c (gOf c left cs) cs = gsum c (fun a => a * left / csum c cs) cs := gsum_congr _ _ _ _ (fun x _ _ => by unfold gOf; rw [if_neg ke])
        have hr := rest_le c left cs h0 (by omega)
        rw [hg, hmn, if_pos (by omega)]
        exact ⟨hr.1, fun q => absurd q ke⟩
    have hflo : ∀ z ∈ flo c (gOf c left cs) cs ps, 0 ≤ z ∧ z ≤ 1000000 := by
      have key : ∀ (xs : List S30) (qs : List Int), (∀ x ∈ xs, VC x) → (∀ p ∈ qs, 0 ≤ p ∧ p ≤ 1000000) → ∀ z ∈ flo c (gOf c left cs) xs qs, 0 ≤ z ∧ z ≤ 1000000 := by
        intro xs
        induction xs with
        | nil => intro qs _ hq z hz; cases qs with | nil => simp [flo] at hz | cons q qs => exact hq z (by simpa [flo] using hz)
        | cons x xs ih => intro qs hx hq z hz; cases qs with
          | nil => simp [flo] at hz
          | cons q qs =>
            rw [flo] at hz
            rcases List.mem_cons.1 hz with rfl | hz
            · have hx2 := hx x List.mem_cons_self
              have := gOf_range c left cs h0 x.f1 hx2.2.2.1
              have := hx2.2.2.2
              have := hq q List.mem_cons_self
              split <;> omega
            · exact ih qs (fun y hy => hx y (List.mem_cons_of_mem _ hy)) (fun y hy => hq y (List.mem_cons_of_mem _ hy)) z hz
      exact key cs ps hv.2 hp
    have h2 := spec_pay_l1 cs hv c left h0 h1 (csum c cs) pay (by omega) hpb.1 hpb.2.1 cs (flo c (gOf c left cs) cs ps) 0 (pay - gsum c (gOf c left cs) cs) (flo c (gOf c left cs) cs ps) (At.zero _) (At.zero _) (by rw [flo_length, e]) hrest.1 (by omega) (by omega) hflo
    have h3 := spec_pay_l0 cs hv c left h0 h1 (csum c cs) pay hpb.1 hpb.2.1 (fun _ => hpb.2.2) (fun a => a * pay / csum c cs) (fun a => rfl) (pay - gsum c (gOf c left cs) cs) (by omega) (by omega) (flo c (gOf c left cs) cs ps) h2 (by omega) cs ps 0 ps (At.zero _) (At.zero _) e (by rw [hfl]; simp)
    rw [hgs, show pay - gsum c (gOf c left cs) cs + gsum c (gOf c left cs) cs = pay by omega] at h3
    refine EvS.mono h3 (fun r hr => ?_)
    rw [hr, roundPs]
    by_cases ke : left ≥ csum c cs
    · rw [if_pos ke, bump_zero _ _ _ _ _ (by have := hrest.2 ke; omega)]; simp
    · have hpl : pay = left := by rw [hmn, if_pos (by omega)]
      rw [if_neg ke, hpl]; simp
end
/-! ## Valid claims, and all classes. -/
theorem impl_ValidClaims_l0 (xs : List S30) (hl : xs.length ≤ 4000000) (ys : List S30) : ∀ i : Int, At xs i ys → EvS (fun k => impl_ValidClaims.l0 k xs xs.length i) (· = decide (∀ x ∈ ys, VC x)) := by
  induction ys with
  | nil =>
    intro i h
    refine EvS.step (fun k => by rw [impl_ValidClaims.l0]) ?_
    exact EvS.neg (by have := h.ge; omega) (EvS.now (by simp))
  | cons y ys ih =>
    intro i h
    refine EvS.step (fun k => by rw [impl_ValidClaims.l0]) ?_
    refine EvS.pos h.lt (EvS.pos h.nonneg (EvS.pos h.lt ?_))
    rw [at_rdC h]
    have no : ¬ VC y → false = decide (∀ x ∈ y :: ys, VC x) := fun g => (decide_eq_false (fun q => g (q y List.mem_cons_self))).symm
    refine EvS.ite (fun c => EvS.now (no (by unfold VC; omega))) (fun c1 => EvS.ite (fun c => EvS.now (no (by unfold VC; omega))) (fun c2 => EvS.ite (fun c => EvS.now (no (by unfold VC; omega))) (fun c3 => EvS.ite (fun c => EvS.now (no (by unfold VC; omega))) (fun c4 => ?_))))
    refine EvS.mono (ih _ (h.wnext (by omega))) (fun r hr => ?_)
    rw [hr]
    exact decide_eq_decide.2 ⟨fun g x hx => by rcases List.mem_cons.1 hx with rfl | hx; exact ⟨by omega, by omega, by omega, by omega⟩; exact g x hx, fun g x hx => g x (List.mem_cons_of_mem _ hx)⟩
theorem impl_ValidClaims_ok (xs : List S30) (hl : xs.length ≤ 4000000) : EvS (fun k => impl_ValidClaims.f k xs) (· = decide (VCs xs)) := by
  simp only [impl_ValidClaims.f]
  refine EvS.ite (fun c => EvS.now (decide_eq_false (fun g => by have := g.1; omega)).symm) (fun c => ?_)
  refine EvS.mono (impl_ValidClaims_l0 xs hl xs 0 (At.zero _)) (fun r hr => ?_)
  rw [hr]
  exact decide_eq_decide.2 ⟨fun g => ⟨by omega, g⟩, fun g => g.2⟩
theorem spec_validClaims_l0 (xs : List S30) (hl : xs.length ≤ 4000000) (ys : List S30) : ∀ i : Int, At xs i ys → EvS (fun k => spec_validClaims.l0 k xs i) (· = decide (xs.length ≤ 20 ∧ ∀ x ∈ ys, VC x)) := by
  induction ys with
  | nil =>
    intro i h
    refine EvS.step (fun k => by rw [spec_validClaims.l0]) ?_
    exact EvS.neg (by have := h.ge; omega) (EvS.now (decide_eq_decide.2 ⟨fun g => ⟨by omega, by simp⟩, fun g => by omega⟩))
  | cons y ys ih =>
    intro i h
    refine EvS.step (fun k => by rw [spec_validClaims.l0]) ?_
    refine EvS.pos h.lt (EvS.pos h.nonneg ?_)
    rw [at_rdC h]
    have no : ¬ VC y → false = decide (xs.length ≤ 20 ∧ ∀ x ∈ y :: ys, VC x) := fun g => (decide_eq_false (fun q => g (q.2 y List.mem_cons_self))).symm
    refine EvS.call (inRange_eq _ _ _) (EvS.ite (fun c1 => EvS.call (inRange_eq _ _ _) (EvS.ite (fun c2 => ?_) (fun c => EvS.now (no (fun q => ndec c ⟨q.2.2.1, q.2.2.2⟩))))) (fun c => EvS.now (no (fun q => ndec c ⟨q.1, q.2.1⟩))))
    have c1 := of_decide_eq_true c1
    have c2 := of_decide_eq_true c2
    refine EvS.mono (ih _ (h.wnext (by omega))) (fun r hr => ?_)
    rw [hr]
    exact decide_eq_decide.2 ⟨fun g => ⟨g.1, fun x hx => by rcases List.mem_cons.1 hx with rfl | hx; exact ⟨c1.1, c1.2, c2.1, c2.2⟩; exact g.2 x hx⟩, fun g => ⟨g.1, fun x hx => g.2 x (List.mem_cons_of_mem _ hx)⟩⟩
theorem spec_validClaims_ok (xs : List S30) (hl : xs.length ≤ 4000000) : EvS (fun k => spec_validClaims.f k xs) (· = decide (VCs xs)) := by
  simp only [spec_validClaims.f]
  exact spec_validClaims_l0 xs hl xs 0 (At.zero _)
theorem flo_bound (c : Int) (g : Int → Int) (B : Int) (xs : List S30) : ∀ qs : List Int, (∀ x ∈ xs, 0 ≤ g x.f1 ∧ g x.f1 ≤ B) → (∀ p ∈ qs, 0 ≤ p ∧ p ≤ B) → ∀ z ∈ flo c g xs qs, 0 ≤ z ∧ z ≤ B := by
  induction xs with
  | nil => intro qs _ hq z hz; cases qs with | nil => simp [flo] at hz | cons q qs => exact hq z (by simpa [flo] using hz)
  | cons x xs ih => intro qs hx hq z hz; cases qs with
    | nil => simp [flo] at hz
    | cons q qs =>
      rw [flo] at hz
      rcases List.mem_cons.1 hz with rfl | hz
      · have := hx x List.mem_cons_self
        have := hq q List.mem_cons_self
        split <;> omega
      · exact ih qs (fun y hy => hx y (List.mem_cons_of_mem _ hy)) (fun y hy => hq y (List.mem_cons_of_mem _ hy)) z hz
theorem bump_bound (c : Int) (m : Int → Bool) (B : Int) (xs : List S30) : ∀ (rest : Int) (qs : List Int), (∀ p ∈ qs, 0 ≤ p ∧ p ≤ B) → ∀ z ∈ bump c m rest xs qs, 0 ≤ z ∧ z ≤ B + 1 := by
  induction xs with
  | nil => intro rest qs hq z hz; cases qs with | nil => simp [bump] at hz | cons q qs => have := hq z (by simpa [bump] using hz); omega
  | cons x xs ih => intro rest qs hq z hz; cases qs with
    | nil => simp [bump] at hz
    | cons q qs =>
      have h1 := hq q List.mem_cons_self
      rw [bump] at hz
      split at hz
      · rcases List.mem_cons.1 hz with rfl | hz
        · omega
        · exact ih _ qs (fun y hy => hq y (List.mem_cons_of_mem _ hy)) z hz
      · rcases List.mem_cons.1 hz with rfl | hz
        · omega
        · exact ih _ qs (fun y hy => hq y (List.mem_cons_of_mem _ hy)) z hz
theorem psn_bound (box : Int) (h0 : 0 ≤ box) (l : List S30) (hv : ∀ x ∈ l, VC x) (n : Nat) : ∀ z ∈ psn box l n, 0 ≤ z ∧ z ≤ 100000 + n := by
  induction n with
  | zero => intro z hz; simp only [psn] at hz; have := List.eq_of_mem_replicate hz; omega
  | succ n ih =>
    intro z hz
    simp only [psn, roundPs] at hz
    have hl := lft_range box h0 l hv n
    have hg : ∀ x ∈ l, 0 ≤ gOf n (lft box l n) l x.f1 ∧ gOf n (lft box l n) l x.f1 ≤ 100000 + n := by
      intro x hx
      have h1 := hv x hx
      have := gOf_range n (lft box l n) l hl.1 x.f1 h1.2.2.1
      have := h1.2.2.2
      omega
    split at hz
    · have := flo_bound n _ (100000 + n) l _ hg ih z hz; omega
    · have := bump_bound n _ (100000 + n) l _ _ (flo_bound n _ (100000 + n) l _ hg ih) z hz; omega
/-- What PayClaims tells. -/
def payF (cs : List S30) (box : Int) : List Int := if VCs cs ∧ 0 ≤ box ∧ box ≤ 1000000 then psn box cs 5 else []
theorem payF_len (cs : List S30) (box : Int) : (payF cs box).length ≤ cs.length := by
  unfold payF; split
  · rw [psn_len]; omega
  · simp
theorem impl_Pay_l0 (cs : List S30) (hv : VCs cs) (box : Int) (h0 : 0 ≤ box) (h1 : box ≤ 1000000) (d : Nat) : ∀ n : Nat, n + d = 5 → EvS (fun k => impl_PayClaims.l0 k cs (lft box cs n) (psn box cs n) n) (· = psn box cs 5) := by
  induction d with
  | zero =>
    intro n hn
    refine EvS.step (fun k => by rw [impl_PayClaims.l0]) ?_
    exact EvS.neg (by omega) (EvS.now (by rw [show n = 5 by omega]))
  | succ d ih =>
    intro n hn
    have hl := lft_range box h0 cs hv.2 n
    refine EvS.step (fun k => by rw [impl_PayClaims.l0]) ?_
    refine EvS.pos (by omega) (EvS.bindv (impl_payClass_ok cs hv n (lft box cs n) hl.1 (by omega) (psn box cs n) (psn_len box cs n) (fun p hp => by have := psn_bound box h0 cs hv.2 n p hp; omega)) ?_)
    rw [w64 (x := (n : Int) + 1) (by omega) (by omega)]
    exact ih (n + 1) (by omega)
theorem impl_PayClaims_ok (cs : List S30) (hl : cs.length ≤ 4000000) (box : Int) : EvS (fun k => impl_PayClaims.f k cs box) (· = payF cs box) := by
  have jt : ¬ (VCs cs ∧ 0 ≤ box ∧ box ≤ 1000000) → EvS (fun k => impl_PayClaims.j0 k cs box true) (· = payF cs box) := by
    intro g
    refine EvS.step (fun k => by rw [impl_PayClaims.j0]) ?_
    exact EvS.pos rfl (EvS.now (by rw [payF, if_neg g]))
  simp only [impl_PayClaims.f]
  refine EvS.bindv (impl_ValidClaims_ok cs hl) (EvS.ite (fun c1 => EvS.ite (fun c2 => jt (by omega)) (fun c2 => ?_)) (fun c1 => jt (fun g => ndec c1 g.1)))
  have c1 := of_decide_eq_true c1
  by_cases c3 : box > 1000000
  · rw [decide_eq_true c3]; exact jt (by omega)
  · rw [decide_eq_false c3]
    refine EvS.step (fun k => by rw [impl_PayClaims.j0]) ?_
    rw [payF, if_pos ⟨c1, by omega, by omega⟩]
    refine EvS.neg (by simp) (EvS.pos (by omega) (EvS.pos (by omega) ?_))
    exact impl_Pay_l0 cs c1 box (by omega) (by omega) 5 0 (by omega)
theorem spec_pay_l0_ok (cs : List S30) (hv : VCs cs) (box : Int) (h0 : 0 ≤ box) (h1 : box ≤ 1000000) (d : Nat) : ∀ n : Nat, n + d = 5 → EvS (fun k => spec_pay.l0 k cs (lft box cs n) (psn box cs n) n) (· = psn box cs 5) := by
  induction d with
  | zero =>
    intro n hn
    refine EvS.step (fun k => by rw [spec_pay.l0]) ?_
    exact EvS.neg (by omega) (EvS.now (by rw [show n = 5 by omega]))
  | succ d ih =>
    intro n hn
    have hl := lft_range box h0 cs hv.2 n
    have hc := csum_range n cs hv.2
    have hn20 := hv.1
    have hz := all2_mono (R := fun x p => x.f0 = n → p = 0) cs (fun x _ p g e => g.2 (by omega)) _ (psn_all box cs hv.2 n)
    refine EvS.step (fun k => by rw [spec_pay.l0]) ?_
    refine EvS.pos (by omega) (EvS.bindv (spec_payClass_ok cs hv n (lft box cs n) hl.1 (by omega) (psn box cs n) (psn_len box cs n) (fun p hp => by have := psn_bound box h0 cs hv.2 n p hp; omega) hz) (EvS.bindv (spec_classSum_ok cs hv n (lft box cs n) hl.1 (by omega)) ?_))
    rw [w64 (x := (n : Int) + 1) (by omega) (by omega), w64 (x := lft box cs n - csum n cs) (by omega) (by omega)]
    have hm : mx 0 (lft box cs n - csum n cs) = roundLeft n (lft box cs n) cs := by
      show (if 0 < lft box cs n - csum n cs then lft box cs n - csum n cs else 0) = _
      unfold roundLeft
      split <;> split <;> omega
    rw [hm]
    exact ih (n + 1) (by omega)
theorem spec_pay_ok (cs : List S30) (hv : VCs cs) (box : Int) (h0 : 0 ≤ box) (h1 : box ≤ 1000000) : EvS (fun k => spec_pay.f k cs box) (· = psn box cs 5) := by
  have hn := hv.1
  simp only [spec_pay.f]
  exact EvS.pos (by omega) (EvS.pos (by omega) (spec_pay_l0_ok cs hv box h0 h1 5 0 (by omega)))
theorem validAmount_eq (n : Int) : spec_validAmount.f n = some (decide (0 ≤ n ∧ n ≤ 1000000)) := by
  unfold spec_validAmount.f
  rw [inRange_eq]; rfl
theorem spec_PayClaims_ok (cs : List S30) (hl : cs.length ≤ 4000000) (box : Int) : EvS (fun k => spec_PayClaims.f k cs box) (· = payF cs box) := by
  have no : ¬ (VCs cs ∧ 0 ≤ box ∧ box ≤ 1000000) → [] = payF cs box := fun g => by rw [payF, if_neg g]
  simp only [spec_PayClaims.f]
  refine EvS.bindv (spec_validClaims_ok cs hl) (EvS.ite (fun c1 => EvS.call (validAmount_eq box) (EvS.ite (fun c2 => ?_) (fun c2 => EvS.now (no (fun g => ndec c2 g.2))))) (fun c1 => EvS.now (no (fun g => ndec c1 g.1))))
  have c1 := of_decide_eq_true c1
  have c2 := of_decide_eq_true c2
  rw [payF, if_pos ⟨c1, c2⟩]
  exact EvS.bindv (spec_pay_ok cs c1 box c2.1 c2.2) (EvS.now rfl)
/-! ## Amounts divided into equal parts. -/
theorem list_ext {xs ys : List Int} (hl : xs.length = ys.length) (h : ∀ i : Int, 0 ≤ i → i < xs.length → rd xs i = rd ys i) : xs = ys := by
  apply List.ext_getElem hl
  intro n h1 h2
  have := h n (by omega) (by omega)
  unfold rd at this
  simp only [Int.toNat_natCast] at this
  rw [List.getD_eq_getElem?_getD, List.getD_eq_getElem?_getD, List.getElem?_eq_getElem h1, List.getElem?_eq_getElem h2] at this
  exact this
theorem rd_set (xs : List Int) (i j v : Int) (h0 : 0 ≤ i) (h1 : i < xs.length) (h2 : 0 ≤ j) : rd (xs.set i.toNat v) j = if i = j then v else rd xs j := by
  unfold rd
  rw [List.getD_eq_getElem?_getD, List.getElem?_set]
  by_cases c : i = j
  · subst c; rw [if_pos rfl, if_pos (by omega), if_pos rfl]; rfl
  · rw [if_neg (by omega), if_neg c, List.getD_eq_getElem?_getD]
theorem rd_zeros (n : Nat) (j : Int) : rd (List.replicate n 0) j = 0 := by
  unfold rd
  rw [List.getD_eq_getElem?_getD, List.getElem?_replicate]
  split <;> rfl
theorem rd_snoc (xs : List Int) (v j : Int) (h0 : 0 ≤ j) : rd (xs ++ [v]) j = if j < xs.length then rd xs j else if j = xs.length then v else 0 := by
  unfold rd
  rw [List.getD_eq_getElem?_getD, List.getD_eq_getElem?_getD]
  by_cases c : j < xs.length
  · rw [if_pos c, List.getElem?_append_left (by omega)]
  · rw [if_neg c, List.getElem?_append_right (by omega)]
    by_cases c2 : j = xs.length
    · rw [if_pos c2, c2]; simp
    · rw [if_neg c2, List.getElem?_eq_none (by simp; omega)]; rfl
/-! ## What an exact law asks of lists of numbers. -/
theorem eqIntS_l0 (xs : List Int) (hl : xs.length ≤ 4000000) (ys : List Int) : ∀ i : Int, At xs i ys → EvS (fun k => laws_eqIntS.l0 k xs xs i) (· = true) := by
  induction ys with
  | nil =>
    intro i h
    refine EvS.step (fun k => by rw [laws_eqIntS.l0]) ?_
    exact EvS.neg (by have := h.ge; omega) (EvS.now rfl)
  | cons y ys ih =>
    intro i h
    refine EvS.step (fun k => by rw [laws_eqIntS.l0]) ?_
    exact EvS.pos h.lt (EvS.pos h.nonneg (EvS.pos h.lt (EvS.pos (by simp) (ih _ (h.wnext (by omega))))))
theorem eqIntS_ok (xs : List Int) (hl : xs.length ≤ 4000000) : EvS (fun k => laws_eqIntS.f k xs xs) (· = true) := by
  simp only [laws_eqIntS.f]
  exact EvS.pos (by trivial) (eqIntS_l0 xs hl xs 0 (At.zero xs))
structure Marked (k : Int) (n : Nat) (m : List Int) : Prop where
  len : m.length = n
  val : ∀ j : Int, 0 ≤ j → j < n → rd m j = k + j
theorem markIntS_l0 (n : Nat) (hn : n ≤ 4000000) (k0 : Int) (h0 : 0 ≤ k0) (h1 : k0 ≤ 1099511627776) (d : Nat) : ∀ (i : Int) (m : List Int), i + d = n → 0 ≤ i → m.length = n → (∀ j : Int, 0 ≤ j → j < i → rd m j = k0 + j) →
    EvS (fun k => laws_markIntS.l0 k m (k0 + i) i) (fun r => r.1 = k0 + n ∧ Marked k0 n r.2) := by
  induction d with
  | zero =>
    intro i m e1 e2 e3 e4
    refine EvS.step (fun k => by rw [laws_markIntS.l0]) ?_
    exact EvS.neg (by omega) (EvS.now ⟨by dsimp only; omega, e3, fun j j0 j1 => e4 j j0 (by omega)⟩)
  | succ d ih =>
    intro i m e1 e2 e3 e4
    refine EvS.step (fun k => by rw [laws_markIntS.l0]) ?_
    refine EvS.pos (by omega) (EvS.pos e2 ?_)
    rw [w64 (x := k0 + i + 1) (by omega) (by omega), w64 (x := i + 1) (by omega) (by omega), show k0 + i + 1 = k0 + (i + 1) by omega]
    refine ih _ _ (by omega) (by omega) (by simpa using e3) (fun j j0 j1 => ?_)
    rw [rd_set _ _ _ _ e2 (by omega) j0]
    by_cases e : i = j
    · rw [if_pos e, e]
    · rw [if_neg e]; exact e4 j j0 (by omega)
theorem markIntS_ok (xs : List Int) (hl : xs.length ≤ 4000000) (k0 : Int) (h0 : 0 ≤ k0) (h1 : k0 ≤ 1099511627776) : EvS (fun k => laws_markIntS.f k xs k0) (fun r => r.1 = k0 + xs.length ∧ Marked k0 xs.length r.2) := by
  simp only [laws_markIntS.f]
  have := markIntS_l0 xs.length hl k0 h0 h1 xs.length 0 xs (by omega) (by omega) rfl (fun j j0 j1 => by omega)
  rw [show k0 + 0 = k0 by omega] at this
  exact this
theorem heldIntS_l0 (n : Nat) (hn : n ≤ 4000000) (k0 : Int) (h0 : 0 ≤ k0) (h1 : k0 ≤ 1099511627776) (m : List Int) (hm : Marked k0 n m) (d : Nat) : ∀ i : Int, i + d = n → 0 ≤ i → EvS (fun k => laws_heldIntS.l0 k m (k0 + i) i) (· = k0 + n) := by
  have e3 := hm.len
  induction d with
  | zero =>
    intro i e1 e2
    refine EvS.step (fun k => by rw [laws_heldIntS.l0]) ?_
    exact EvS.neg (by omega) (EvS.now (by omega))
  | succ d ih =>
    intro i e1 e2
    refine EvS.step (fun k => by rw [laws_heldIntS.l0]) ?_
    refine EvS.pos (by omega) (EvS.pos e2 (EvS.pos (hm.val i e2 (by omega)) ?_))
    rw [w64 (x := k0 + i + 1) (by omega) (by omega), w64 (x := i + 1) (by omega) (by omega), show k0 + i + 1 = k0 + (i + 1) by omega]
    exact ih _ (by omega) (by omega)
theorem heldIntS_ok (n : Nat) (hn : n ≤ 4000000) (k0 : Int) (h0 : 0 ≤ k0) (h1 : k0 ≤ 1099511627776) (m : List Int) (hm : Marked k0 n m) : EvS (fun k => laws_heldIntS.f k m k0) (· = k0 + n) := by
  simp only [laws_heldIntS.f]
  have := heldIntS_l0 n hn k0 h0 h1 m hm n 0 (by omega) (by omega)
  rw [show k0 + 0 = k0 by omega] at this
  exact this
/-! ## What an exact law asks of lists of the struct Claim. -/
def cvClaim (x : S64) : S30 := ⟨x.f0, x.f1⟩
theorem at_rdClaim {xs ys : List S30} {i : Int} {y : S30} (h : At xs i (y :: ys)) : rd_T30 xs i = y := h.getD _
theorem at_rdLClaim {xs ys : List S64} {i : Int} {y : S64} (h : At xs i (y :: ys)) : rd_T64 xs i = y := h.getD _
theorem rdClaim_set (xs : List S30) (i j : Int) (v : S30) (h0 : 0 ≤ i) (h1 : i < xs.length) (h2 : 0 ≤ j) : rd_T30 (xs.set i.toNat v) j = if i = j then v else rd_T30 xs j := by
  unfold rd_T30
  rw [List.getD_eq_getElem?_getD, List.getElem?_set]
  by_cases c : i = j
  · subst c; rw [if_pos rfl, if_pos (by omega), if_pos rfl]; rfl
  · rw [if_neg (by omega), if_neg c, List.getD_eq_getElem?_getD]
theorem listClaim_ext {xs ys : List S30} (hl : xs.length = ys.length) (h : ∀ i : Int, 0 ≤ i → i < xs.length → rd_T30 xs i = rd_T30 ys i) : xs = ys := by
  apply List.ext_getElem hl
  intro n h1 h2
  have := h n (by omega) (by omega)
  unfold rd_T30 at this
  simp only [Int.toNat_natCast] at this
  rw [List.getD_eq_getElem?_getD, List.getD_eq_getElem?_getD, List.getElem?_eq_getElem h1, List.getElem?_eq_getElem h2] at this
  exact this
theorem rdClaim_map (xs : List S64) (i : Int) (h0 : 0 ≤ i) (h1 : i < xs.length) : rd_T30 (xs.map cvClaim) i = cvClaim (rd_T64 xs i) := by
  unfold rd_T30 rd_T64
  rw [List.getD_eq_getElem?_getD, List.getD_eq_getElem?_getD, List.getElem?_map, List.getElem?_eq_getElem (show i.toNat < xs.length by omega)]
  rfl
theorem szClaim_eq (xs : List S64) (c : Int) (h0 : 0 ≤ c) (h1 : c ≤ 1048576) (hx : xs.length ≤ 9223372036854775807) : laws_szClaimS.f xs c = some (if c - xs.length < 0 then -1 else c - xs.length) := by
  unfold laws_szClaimS.f
  rw [w64 (x := c - (xs.length : Int)) (by omega) (by omega)]
  split <;> rfl
theorem toClaimS_l0 (xs : List S64) (hl : xs.length ≤ 4000000) (ys : List S64) : ∀ (i : Int) (s : List S30), At xs i ys → s.length = xs.length → (∀ j : Int, 0 ≤ j → j < i → rd_T30 s j = cvClaim (rd_T64 xs j)) → EvS (fun k => laws_toClaimS.l0 k xs s i) (· = xs.map cvClaim) := by
  induction ys with
  | nil =>
    intro i s h h1 h2
    have := h.ge
    refine EvS.step (fun k => by rw [laws_toClaimS.l0]) ?_
    exact EvS.neg (by omega) (EvS.now (listClaim_ext (by rw [List.length_map, h1]) (fun j j0 j1 => by rw [h2 j j0 (by omega), rdClaim_map xs j j0 (by omega)])))
  | cons y ys ih =>
    intro i s h h1 h2
    have g1 := h.lt
    have g2 := h.nonneg
    refine EvS.step (fun k => by rw [laws_toClaimS.l0]) ?_
    refine EvS.pos h.lt (EvS.pos h.nonneg (EvS.call (by unfold laws_toClaim.f; rfl) (EvS.pos (by omega) ?_)))
    rw [at_rdLClaim h, w64 (by omega) (by omega)]
    refine ih _ _ h.next (by simpa using h1) (fun j j0 j1 => ?_)
    rw [rdClaim_set _ _ _ _ g2 (by omega) j0]
    by_cases e : i = j
    · subst e; rw [if_pos rfl, at_rdLClaim h]; rfl
    · rw [if_neg e]; exact h2 j j0 (by omega)
theorem toClaimS_ok (xs : List S64) (hl : xs.length ≤ 4000000) : EvS (fun k => laws_toClaimS.f k xs) (· = xs.map cvClaim) := by
  simp only [laws_toClaimS.f]
  exact EvS.pos (by omega) (EvS.pos (by omega) (toClaimS_l0 xs hl xs 0 _ (At.zero _) (by simp) (fun j j0 j1 => by omega)))
theorem eqClaim_self (x : S30) : laws_eqClaim.f x.f0 x.f1 x.f0 x.f1 = some true := by
  unfold laws_eqClaim.f
  simp
theorem eqClaimS_l0 (xs : List S30) (hl : xs.length ≤ 4000000) (ys : List S30) : ∀ i : Int, At xs i ys → EvS (fun k => laws_eqClaimS.l0 k xs xs i) (· = true) := by
  induction ys with
  | nil =>
    intro i h
    refine EvS.step (fun k => by rw [laws_eqClaimS.l0]) ?_
    exact EvS.neg (by have := h.ge; omega) (EvS.now rfl)
  | cons y ys ih =>
    intro i h
    refine EvS.step (fun k => by rw [laws_eqClaimS.l0]) ?_
    exact EvS.pos h.lt (EvS.pos h.nonneg (EvS.pos h.lt (EvS.call (eqClaim_self _) (EvS.pos rfl (ih _ (h.wnext (by omega)))))))
theorem eqClaimS_ok (xs : List S30) (hl : xs.length ≤ 4000000) : EvS (fun k => laws_eqClaimS.f k xs xs) (· = true) := by
  simp only [laws_eqClaimS.f]
  exact EvS.pos (by trivial) (eqClaimS_l0 xs hl xs 0 (At.zero xs))
structure MarkedClaim (k : Int) (n : Nat) (m : List S30) : Prop where
  len : m.length = n
  val : ∀ j : Int, 0 ≤ j → j < n → rd_T30 m j = ⟨k + 2 * j, k + 2 * j + 1⟩
theorem markClaimS_l0 (n : Nat) (hn : n ≤ 4000000) (k0 : Int) (h0 : 0 ≤ k0) (h1 : k0 ≤ 1099511627776) (d : Nat) : ∀ (i : Int) (m : List S30), i + d = n → 0 ≤ i → m.length = n → (∀ j : Int, 0 ≤ j → j < i → rd_T30 m j = ⟨k0 + 2 * j, k0 + 2 * j + 1⟩) →
    EvS (fun k => laws_markClaimS.l0 k m (k0 + 2 * i) i) (fun r => r.1 = k0 + 2 * n ∧ MarkedClaim k0 n r.2) := by
  induction d with
  | zero =>
    intro i m e1 e2 e3 e4
    refine EvS.step (fun k => by rw [laws_markClaimS.l0]) ?_
    exact EvS.neg (by omega) (EvS.now ⟨by dsimp only; omega, e3, fun j j0 j1 => e4 j j0 (by omega)⟩)
  | succ d ih =>
    intro i m e1 e2 e3 e4
    have self : ∀ (l : List S30) (v : S30), l.length = n → rd_T30 (l.set i.toNat v) i = v := fun l v hl => by rw [rdClaim_set _ _ _ _ e2 (by omega) e2, if_pos rfl]
    refine EvS.step (fun k => by rw [laws_markClaimS.l0]) ?_
    refine EvS.pos (by omega) (EvS.pos e2 ?_)
    refine EvS.onsome (?_)
    simp only [List.set_set, self m _ e3]
    rw [w64 (x := k0 + 2 * i + 1) (by omega) (by omega), w64 (x := k0 + 2 * i + 1 + 1) (by omega) (by omega), w64 (x := i + 1) (by omega) (by omega)]
    rw [show k0 + 2 * i + 1 + 1 = k0 + 2 * (i + 1) by omega]
    refine ih _ _ (by omega) (by omega) (by simpa using e3) (fun j j0 j1 => ?_)
    rw [rdClaim_set _ _ _ _ e2 (by omega) j0]
    by_cases e : i = j
    · subst e; rw [if_pos rfl]
    · rw [if_neg e]; exact e4 j j0 (by omega)
theorem markClaimS_ok (xs : List S30) (hl : xs.length ≤ 4000000) (k0 : Int) (h0 : 0 ≤ k0) (h1 : k0 ≤ 1099511627776) : EvS (fun k => laws_markClaimS.f k xs k0) (fun r => r.1 = k0 + 2 * xs.length ∧ MarkedClaim k0 xs.length r.2) := by
  simp only [laws_markClaimS.f]
  have := markClaimS_l0 xs.length hl k0 h0 h1 xs.length 0 xs (by omega) (by omega) rfl (fun j j0 j1 => by omega)
  rw [show k0 + 2 * 0 = k0 by omega] at this
  exact this
def G64 (x : S64) : Prop := ((Lit.int .i64 x.f0).wf = true) ∧ ((Lit.int .i64 x.f1).wf = true)
theorem FnExactPayClaims (l0 : List S64) (g0 : l0.length ≤ 9223372036854775807 ∧ ∀ y0 ∈ l0, G64 y0) (a1 : Int) (g1 : (Lit.int .i64 a1).wf = true) : ∃ k, laws_FnExactPayClaims.f k l0 a1 = some true := by
  refine EvS.holds ?_
  simp only [laws_FnExactPayClaims.f]
  refine EvS.call (szClaim_eq l0 1048576 (by omega) (by omega) g0.1) ?_
  by_cases c : (1048576 : Int) - l0.length < 0
  · rw [if_pos c]; exact EvS.pos (by omega) (EvS.now rfl)
  · rw [if_neg c]
    have hto := toClaimS_ok l0 (by omega)
    have hm0 : (l0.map cvClaim).length = l0.length := List.length_map _
    have hv := payF_len (l0.map cvClaim) a1
    have he := eqIntS_ok (payF (l0.map cvClaim) a1) (by omega)
    have ii := impl_PayClaims_ok (l0.map cvClaim) (by omega) a1
    refine EvS.neg c (EvS.bindv hto (EvS.bindv (spec_PayClaims_ok _ (by omega) a1) (EvS.bindv hto (EvS.bindv ii (EvS.bindv he (EvS.pos rfl (EvS.bindv hto (EvS.bindv (eqClaimS_ok _ (by omega)) (EvS.pos rfl ?_)))))))))
    refine EvS.bind (markClaimS_ok _ (by omega) 1 (by omega) (by omega)) (fun m1 hm1' => ?_)
    have e1 := hm1'.1
    refine EvS.neg (by omega) (EvS.bindv he ?_)
    refine EvS.step (fun k => by rw [laws_FnExactPayClaims.j0]) ?_
    refine EvS.neg (by simp) (EvS.bind (markIntS_ok _ (by omega) 1 (by omega) (by omega)) (fun m3 hm3 => ?_))
    have hd := heldIntS_ok _ (by omega) 1 (by omega) (by omega) m3.2 hm3.2
    rw [← hm3.1] at hd
    have e3 := hm3.1
    refine EvS.bindv hd (EvS.neg (by omega) (EvS.pos rfl (EvS.bindv hto (EvS.bindv ii (EvS.bindv he (EvS.pos rfl (EvS.bindv hd (EvS.neg (by omega) (EvS.pos rfl (EvS.now rfl))))))))))
end Go.Proofs.Ytjfelimfppcgmaa.Pure
