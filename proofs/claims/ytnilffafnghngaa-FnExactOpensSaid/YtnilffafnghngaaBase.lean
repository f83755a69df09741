/- Words of this session: when a printed function answers ('EvS'), and small facts on lists and numbers. -/
import Derived.Test.YtnilffafnghngaaWMore
import Derived.Test.YtnilffafnghngaaWSized
set_option linter.unusedVariables false
set_option linter.unusedSimpArgs false
namespace Go.Proofs.Ytnilffafnghngaa.Base
open Go.RowKit Go.Proofs.YtnilffafnghngaaW.PrintWords Go.Proofs.YtnilffafnghngaaW.PrintMore
section
variable {α β : Type}

/-- With enough rounds g tells an answer for which P holds. -/
def EvS (g : Nat → Option α) (P : α → Prop) : Prop := ∃ r, Ev g r ∧ P r

theorem EvS.now {r : α} {P : α → Prop} (h : P r) : EvS (fun _ => some r) P := ⟨r, Ev.now r, h⟩
theorem EvS.mono {g : Nat → Option α} {P Q : α → Prop} (h : EvS g P) (k : ∀ a, P a → Q a) : EvS g Q := by
  obtain ⟨r, h1, h2⟩ := h
  exact ⟨r, h1, k r h2⟩
theorem EvS.pos {c : Prop} [Decidable c] {f g : Nat → Option α} {P : α → Prop} (h : c) (k : EvS f P) : EvS (fun n => if c then f n else g n) P := by
  simp only [if_pos h]; exact k
theorem EvS.neg {c : Prop} [Decidable c] {f g : Nat → Option α} {P : α → Prop} (h : ¬ c) (k : EvS g P) : EvS (fun n => if c then f n else g n) P := by
  simp only [if_neg h]; exact k
theorem EvS.ite {c : Prop} [Decidable c] {f g : Nat → Option α} {P : α → Prop} (k : c → EvS f P) (l : ¬ c → EvS g P) : EvS (fun n => if c then f n else g n) P := by
  by_cases h : c
  · exact EvS.pos h (k h)
  · exact EvS.neg h (l h)
theorem EvS.step {g f : Nat → Option α} {P : α → Prop} (h : ∀ k, g (k + 1) = f k) (k : EvS f P) : EvS g P := by
  obtain ⟨r, h1, h2⟩ := k
  exact ⟨r, Ev.step h h1, h2⟩
theorem EvS.congr {g f : Nat → Option α} {P : α → Prop} (h : ∀ k, g k = f k) (k : EvS f P) : EvS g P := by
  obtain ⟨r, h1, h2⟩ := k
  exact ⟨r, Ev.congr h h1, h2⟩
theorem EvS.bind {g : Nat → Option α} {f : Nat → α → Option β} {Q : α → Prop} {P : β → Prop} (h : EvS g Q) (k : ∀ a, Q a → EvS (fun n => f n a) P) : EvS (fun n => (g n).bind (f n)) P := by
  obtain ⟨a, h1, h2⟩ := h
  obtain ⟨r, h3, h4⟩ := k a h2
  exact ⟨r, Ev.bind h1 h3, h4⟩
theorem EvS.bindv {g : Nat → Option α} {f : Nat → α → Option β} {a : α} {P : β → Prop} (h : EvS g (· = a)) (k : EvS (fun n => f n a) P) : EvS (fun n => (g n).bind (f n)) P :=
  EvS.bind h (fun b hb => by subst hb; exact k)
theorem EvS.call {o : Option α} {f : Nat → α → Option β} {a : α} {P : β → Prop} (h : o = some a) (k : EvS (fun n => f n a) P) : EvS (fun n => o.bind (f n)) P := by
  subst h; exact k
theorem EvS.onsome {f : Nat → α → Option β} {a : α} {P : β → Prop} (k : EvS (fun n => f n a) P) : EvS (fun n => (some a).bind (f n)) P := k
theorem EvS.rounds {g : Nat → Option α} {a : α} (h : EvS g (· = a)) : ∃ k, g k = some a := by
  obtain ⟨r, h1, rfl⟩ := h
  exact h1.rounds
theorem EvS.holds {g : Nat → Option Bool} (h : EvS g (· = true)) : ∃ k, g k = some true := h.rounds
/-- A condition that is a Bool's own. -/
theorem EvS.bpos {b : Bool} {f g : Nat → Option α} {P : α → Prop} (h : b = true) (k : EvS f P) : EvS (fun n => if b = true then f n else g n) P := EvS.pos h k
end

theorem ndec {p : Prop} [Decidable p] (h : ¬ decide p = true) : ¬ p := fun g => h (decide_eq_true g)
theorem beq_dec (a b : Int) : (a == b) = decide (a = b) := by rw [Bool.eq_iff_iff]; simp
theorem w64 {x : Int} (h : -9223372036854775808 ≤ x) (h' : x ≤ 9223372036854775807) : wrap64 x = x := by unfold wrap64; omega

/-! What is still to come of a list from an index on. -/
section
variable {α : Type}
structure At (xs : List α) (i : Int) (ys : List α) : Prop where
  nonneg : 0 ≤ i
  le : i ≤ xs.length
  drop : xs.drop i.toNat = ys
theorem At.zero (xs : List α) : At xs 0 xs := ⟨Int.le_refl _, by omega, by simp⟩
theorem At.len {xs ys : List α} {i : Int} (h : At xs i ys) : i + ys.length = xs.length := by
  have h1 := h.nonneg
  have h2 := h.le
  have h3 := congrArg List.length h.drop
  rw [List.length_drop] at h3
  omega
theorem At.lt {xs ys : List α} {i : Int} {y : α} (h : At xs i (y :: ys)) : i < xs.length := by
  have h1 := h.len
  rw [List.length_cons] at h1
  omega
theorem At.ge {xs : List α} {i : Int} (h : At xs i []) : i = xs.length := by
  have h1 := h.len
  simp at h1
  omega
theorem At.get? {xs ys : List α} {i : Int} {y : α} (h : At xs i (y :: ys)) : xs[i.toNat]? = some y := by
  have h1 : (xs.drop i.toNat)[0]? = some y := by rw [h.drop]; rfl
  rw [List.getElem?_drop] at h1
  simpa using h1
theorem At.getD {xs ys : List α} {i : Int} {y : α} (h : At xs i (y :: ys)) (d : α) : xs.getD i.toNat d = y := by
  rw [List.getD_eq_getElem?_getD, h.get?]; rfl
theorem At.next {xs ys : List α} {i : Int} {y : α} (h : At xs i (y :: ys)) : At xs (i + 1) ys := by
  have h1 := h.nonneg
  refine ⟨by omega, by have := h.lt; omega, ?_⟩
  have h2 : (i + 1).toNat = i.toNat + 1 := by omega
  rw [h2, ← List.drop_drop, h.drop]
  rfl
theorem At.mem {xs ys : List α} {i : Int} {y : α} (h : At xs i (y :: ys)) : y ∈ xs := List.mem_of_getElem? h.get?
theorem At.sub {xs ys : List α} {i : Int} (h : At xs i ys) : ∀ y ∈ ys, y ∈ xs := fun y hy => List.mem_of_mem_drop (by rw [h.drop]; exact hy)
theorem At.take {xs ys : List α} {i : Int} {y : α} (h : At xs i (y :: ys)) : xs.take (i + 1).toNat = xs.take i.toNat ++ [y] := by
  have h1 := h.nonneg
  have h2 : (i + 1).toNat = i.toNat + 1 := by omega
  rw [h2, List.take_add_one, h.get?]
  rfl
theorem At.split {xs ys : List α} {i : Int} (h : At xs i ys) : xs = xs.take i.toNat ++ ys := by
  rw [← h.drop, List.take_append_drop]
theorem At.wnext {xs ys : List α} {i : Int} {y : α} (h : At xs i (y :: ys)) (hl : xs.length ≤ 4611686018427387904) : At xs (wrap64 (i + 1)) ys := by
  have h1 := h.nonneg
  have h2 := h.lt
  rw [w64 (by omega) (by omega)]
  exact h.next
end

theorem At.rd {xs ys : List Int} {i y : Int} (h : At xs i (y :: ys)) : rd xs i = y := h.getD 0

/-! Numbers. -/
theorem xor_i64 (a b : Int) (h1 : 0 ≤ a) (h2 : a < 9223372036854775808) (h3 : 0 ≤ b) (h4 : b < 9223372036854775808) :
    Go.bits .xor .i64 a b = ((a.toNat ^^^ b.toNat : Nat) : Int) := by
  obtain ⟨m, rfl⟩ := Int.eq_ofNat_of_zero_le h1
  obtain ⟨n, rfl⟩ := Int.eq_ofNat_of_zero_le h3
  have hx : m ^^^ n < 2 ^ 63 := Nat.xor_lt_two_pow (by omega) (by omega)
  have e1 : (BitVec.ofInt 64 (m : Int)).toNat = m := by
    rw [BitVec.ofInt_natCast, BitVec.toNat_ofNat]; exact Nat.mod_eq_of_lt (by omega)
  have e2 : (BitVec.ofInt 64 (n : Int)).toNat = n := by
    rw [BitVec.ofInt_natCast, BitVec.toNat_ofNat]; exact Nat.mod_eq_of_lt (by omega)
  show IntKind.i64.wrap ((BitVec.ofInt 64 (m : Int) ^^^ BitVec.ofInt 64 (n : Int)).toNat : Int) = _
  rw [BitVec.toNat_xor, e1, e2]
  simp only [IntKind.wrap, IntKind.bits, IntKind.signed, Int.toNat_natCast]
  simp
  omega
theorem xor_nonneg (a b : Int) (h1 : 0 ≤ a) (h2 : a < 9223372036854775808) (h3 : 0 ≤ b) (h4 : b < 9223372036854775808) : 0 ≤ Go.bits .xor .i64 a b := by
  rw [xor_i64 a b h1 h2 h3 h4]; omega
theorem tmod_range (x n : Int) (hx : 0 ≤ x) (hn : 1 ≤ n) : 0 ≤ Int.tmod x n ∧ Int.tmod x n < n :=
  ⟨Int.tmod_nonneg _ hx, Int.tmod_lt_of_pos _ (by omega)⟩
theorem tdiv_pos (x n : Int) (hx : 0 ≤ x) : Int.tdiv x n = x / n := Int.tdiv_eq_ediv_of_nonneg hx
theorem tmod_pos (x n : Int) (hx : 0 ≤ x) : Int.tmod x n = x % n := Int.tmod_eq_emod_of_nonneg hx
theorem rd_range {xs : List Int} {lo hi : Int} (hx : ∀ x ∈ xs, lo ≤ x ∧ x ≤ hi) (i : Int) (h0 : 0 ≤ i) (h1 : i < xs.length) : lo ≤ rd xs i ∧ rd xs i ≤ hi := by
  have h2 : i.toNat < xs.length := by omega
  have h3 : rd xs i = xs[i.toNat] := by unfold rd; rw [List.getD_eq_getElem?_getD, List.getElem?_eq_getElem h2]; rfl
  rw [h3]
  exact hx _ (List.getElem_mem h2)
theorem rd_mem {xs : List Int} (i : Int) (h0 : 0 ≤ i) (h1 : i < xs.length) : rd xs i ∈ xs := by
  have h2 : i.toNat < xs.length := by omega
  have h3 : rd xs i = xs[i.toNat] := by unfold rd; rw [List.getD_eq_getElem?_getD, List.getElem?_eq_getElem h2]; rfl
  rw [h3]
  exact List.getElem_mem h2
end Go.Proofs.Ytnilffafnghngaa.Base

/-! The printed row names this fact so. -/
namespace Go.Proofs.Ytnilffafnghngaa.PrintWords
open Go.ChangeShapes Go.WideShapes
theorem sized_ints {H : Type} {enc : TypeId × Value → H} {P : Program} {W : World} {base : Nat} {spare : Nat → Bool} {held : Bool} {t e : TypeId} {k : IntKind} {a : Option Addr} {len cap : Nat} {d : DataW H} {ps : List MemPlace} {ts : List TypeId} {ds : List (DataW H)} {j : Nat}
    (h1 : (DataW.weightsEach P ts ds).all (· ≤ reachBytes) = true) (h2 : ts[j]? = some t) (h3 : ds[j]? = some d) (h4 : P.underlying t = some (.slice e)) (h5 : P.underlying e = some (.int k)) (h6 : P.cellsOf e = 1) {B : Nat} (h7 : P.bytesOf e = B)
    (h : DataW.Trod enc P W base spare held t (.slice a len cap) d ps) : len * B ≤ 140737488351232 := Go.Proofs.YtnilffafnghngaaW.PrintWords.sized_ints h1 h2 h3 h4 h5 h6 h7 h
end Go.Proofs.Ytnilffafnghngaa.PrintWords
