/- What the reference's number, its ShowMoney, the program's ShowMoney and the law answer: walks through the given program. -/
import Derived.Test.YtimjnncfnoggeaaDoorLay
import Derived.WalkKit
import Derived.Below
import Derived.Lib.ItoaLen
set_option linter.unusedVariables false
namespace Go.Proofs.YtimjnncfnoggeaaDoor
open Go Go.RowKit
/-- A string out of its bytes. -/
def str (l : List UInt8) : ByteArray := ⟨l.toArray⟩
theorem str_append (a b : List UInt8) : str a ++ str b = str (a ++ b) := by
  apply ByteArray.ext
  simp [str]
theorem str_size (a : List UInt8) : (str a).size = a.length := by simp [str, ByteArray.size]
theorem dd_len (n : Nat) : (Lib.decDigits n).length ≤ n + 1 := by
  induction n using Nat.strongRecOn with
  | _ n ih =>
    by_cases h : n < 10
    · rw [Lib.decDigits_one h]; simp
    · rw [Lib.decDigits, dif_neg h, List.length_append]
      have := ih (n / 10) (by omega)
      simp
      omega
theorem dd_big {n : Nat} (h : ¬ n < 10) : Lib.decDigits n = Lib.decDigits (n / 10) ++ Lib.decDigits (n % 10) := by
  rw [Lib.decDigits_one (show n % 10 < 10 by omega)]
  exact (by rw [Lib.decDigits, dif_neg h])
theorem digit_piece : ∀ i : Fin 10, (⟨#[48, 49, 50, 51, 52, 53, 54, 55, 56, 57]⟩ : ByteArray).extract i.val (i.val + 1) = str [UInt8.ofNat (48 + i.val)] := by decide +kernel
set_option maxHeartbeats 2000000 in
set_option maxRecDepth 100000 in
theorem number_small (n : Nat) (h : n < 10) (w : World) : Calls Tryd.prog 7 #[.int .i64 n] w fun e w' => e = .returned (.string (str (Lib.decDigits n))) ∧ w' = w := by
  have hs : ∀ w, (Instr.slice 9 (.string ⟨#[48, 49, 50, 51, 52, 53, 54, 55, 56, 57]⟩) (some (.int .i64 (n : Int))) (some (.int .i64 ((n : Int) + 1))) none).run Tryd.prog w = .ok (.string (str (Lib.decDigits n))) w := fun w => by
    rw [run_slice_string w 9 ⟨#[48, 49, 50, 51, 52, 53, 54, 55, 56, 57]⟩ .i64 .i64 _ _ Tryd.underlying9 (by omega) (by omega) (by show _ ≤ ((10 : Nat) : Int); omega), show ((n : Int)).toNat = n by omega, show ((n : Int) + 1).toNat = n + 1 by omega, digit_piece ⟨n, h⟩, Lib.decDigits_one h]
  have h2 : decide ((n : Int) < 10) = true := decide_eq_true (by omega)
  go_enter Tryd.func7, Tryd.ntmps7
  go_wp2
  go_ret
  exact ⟨rfl, rfl⟩
set_option maxHeartbeats 4000000 in
set_option maxRecDepth 100000 in
theorem number_at (n : Nat) : ∀ (_ : n ≤ 1000000) (w : World), Calls Tryd.prog 7 #[.int .i64 n] w fun e w' => e = .returned (.string (str (Lib.decDigits n))) ∧ ∃ k, w' = w.drewN k := by
  induction n using Nat.strongRecOn with
  | _ n ih =>
    intro hn w
    by_cases h : n < 10
    · exact (number_small n h w).mono fun e w' ⟨a, b⟩ => ⟨a, 0, b⟩
    · have h2 : decide ((n : Int) < 10) = false := decide_eq_false (by omega)
      have ih1 := Lib.hid (show ∀ m : Int, 0 ≤ m → m < n → ∀ w : World, Calls Tryd.prog 7 #[.int .i64 m] w fun e w' => e = .returned (.string (str (Lib.decDigits m.toNat))) ∧ ∃ k, w' = w.drewN k from fun m h0 h1 w => by
        have := ih m.toNat (by omega) (by omega) w
        rwa [Int.toNat_of_nonneg h0] at this)
      clear ih
      have hsz : ¬ 9223372036854775807 < (str (Lib.decDigits (n / 10))).size + (str (Lib.decDigits (n % 10))).size := by
        rw [str_size, str_size]
        have := dd_len (n / 10)
        have := dd_len (n % 10)
        omega
      go_enter Tryd.func7, Tryd.ntmps7
      go_wp2_with (go_at_call 7; refine (ih1.out _ (by first | omega | (rw [Int.tmod_eq_emod_of_nonneg (by omega)]; omega)) (by first | omega | (rw [Int.tmod_eq_emod_of_nonneg (by omega)]; omega)) _).mono ?_; rintro e w1 ⟨rfl, k1, rfl⟩)
      go_ret
      refine ⟨?_, _, rfl⟩
      rw [str_append, ← dd_big h]
      rfl
/-- What both answer. -/
def shown (n : Int) : ByteArray := if 0 ≤ n ∧ n ≤ 1000000 then str (Lib.decDigits (n.toNat / 100) ++ [46] ++ Lib.decDigits (n.toNat / 10 % 10) ++ Lib.decDigits (n.toNat % 10)) else str []
theorem dot : (⟨#[46]⟩ : ByteArray) = str [46] := rfl
theorem num_int (m : Int) (h0 : 0 ≤ m) (h1 : m ≤ 1000000) (w : World) : Calls Tryd.prog 7 #[.int .i64 m] w fun e w' => e = .returned (.string (str (Lib.decDigits m.toNat))) ∧ ∃ k, w' = w.drewN k := by
  have := number_at m.toNat (by omega) w
  rwa [Int.toNat_of_nonneg h0] at this
set_option maxHeartbeats 4000000 in
set_option maxRecDepth 100000 in
theorem spec_show (n : Int) (w : World) : Calls Tryd.prog 4 #[.int .i64 n] w fun e w' => e = .returned (.string (shown n)) ∧ ∃ k, w' = w.drewN k := by
  by_cases h : 0 ≤ n ∧ n ≤ 1000000
  · obtain ⟨m, rfl⟩ := Int.eq_ofNat_of_zero_le h.1
    have hm : m ≤ 1000000 := by have := h.2; omega
    have c1 : decide ((0 : Int) ≤ (m : Int)) = true := decide_eq_true (by omega)
    have c2 : decide ((m : Int) ≤ 1000000) = true := decide_eq_true (by omega)
    have l1 := dd_len (m / 100)
    have l2 := dd_len (m / 10 % 10)
    have l3 := dd_len (m % 10)
    have z1 : ¬ 9223372036854775807 < (str (Lib.decDigits (m / 100))).size + 1 := by rw [str_size]; omega
    have z2 : ¬ 9223372036854775807 < (str (Lib.decDigits (m / 100))).size + 1 + (str (Lib.decDigits (m / 10 % 10))).size := by rw [str_size, str_size]; omega
    have z3 : ¬ 9223372036854775807 < (str (Lib.decDigits (m / 100))).size + 1 + (str (Lib.decDigits (m / 10 % 10))).size + (str (Lib.decDigits (m % 10))).size := by rw [str_size, str_size, str_size]; omega
    clear h l1 l2 l3
    go_enter Tryd.func4, Tryd.ntmps4
    go_wp2_with (first
      | (go_at_call 7; refine (num_int _ (by omega) (by omega) _).mono ?_; rintro e w1 ⟨rfl, k1, rfl⟩)
      | go_in)
    go_ret
    refine ⟨?_, _, rfl⟩
    have hs : shown (m : Int) = str (Lib.decDigits (m / 100)) ++ ⟨#[46]⟩ ++ str (Lib.decDigits (m / 10 % 10)) ++ str (Lib.decDigits (m % 10)) := by
      unfold shown
      rw [if_pos (by omega), dot, str_append, str_append, str_append, Int.toNat_natCast]
    rw [hs]
    rfl
  · have hs : shown n = ⟨#[]⟩ := by unfold shown; rw [if_neg h]; rfl
    rw [hs]
    by_cases h0 : 0 ≤ n
    · have c1 : decide ((0 : Int) ≤ n) = true := decide_eq_true h0
      have c2 : decide (n ≤ 1000000) = false := decide_eq_false (by omega)
      go_enter Tryd.func4, Tryd.ntmps4
      go_wp2_with go_in
      go_ret
      exact ⟨rfl, 0, rfl⟩
    · have c1 : decide ((0 : Int) ≤ n) = false := decide_eq_false h0
      go_enter Tryd.func4, Tryd.ntmps4
      go_wp2_with go_in
      go_ret
      exact ⟨rfl, 0, rfl⟩
/-- The last two digits. -/
theorem two_digits (m : Nat) : (if (Lib.decDigits (m % 100)).length < 2 then 48 :: Lib.decDigits (m % 100) else Lib.decDigits (m % 100)) = Lib.decDigits (m / 10 % 10) ++ Lib.decDigits (m % 10) := by
  have e1 : m % 100 % 10 = m % 10 := by omega
  by_cases h : m % 100 < 10
  · rw [Lib.decDigits_one h, if_pos (by simp), Lib.decDigits_one (show m / 10 % 10 < 10 by omega), Lib.decDigits_one (show m % 10 < 10 by omega), show m / 10 % 10 = 0 by omega, show m % 100 = m % 10 by omega]
    rfl
  · rw [dd_big h, Lib.decDigits_one (show m % 100 / 10 < 10 by omega), Lib.decDigits_one (show m % 100 % 10 < 10 by omega), if_neg (by simp), Lib.decDigits_one (show m / 10 % 10 < 10 by omega), Lib.decDigits_one (show m % 10 < 10 by omega), e1, show m % 100 / 10 = m / 10 % 10 by omega]
theorem grow_below (B : Nat) (w : World) (hB : B ≤ w.heap.size) (k : Nat) (os : Array Obj) : Below B w (Sort.grow (w.drewN k) os) :=
  ⟨rfl, rfl, rfl, by simp [Sort.grow], fun i hi => Array.getElem?_append_left (by simp; omega)⟩
set_option maxHeartbeats 4000000 in
set_option maxRecDepth 100000 in
theorem impl_show (n : Int) (w : World) (htab : Lib.TabIs Tryd.prog w "internal/strconv.uint64pow10" .u64 Lib.pow10Tab) : Calls Tryd.prog 5 #[.int .i64 n] w fun e w' => e = .returned (.string (shown n)) ∧ Below w.heap.size w w' := by
  by_cases h : 0 ≤ n ∧ n ≤ 1000000
  · obtain ⟨m, rfl⟩ := Int.eq_ofNat_of_zero_le h.1
    have hm : m ≤ 1000000 := by have := h.2; omega
    have c1 : decide ((m : Int) < 0) = false := decide_eq_false (by omega)
    have c2 : decide (1000000 < (m : Int)) = false := decide_eq_false (by omega)
    have l1 := dd_len (m / 100)
    have l2 := dd_len (m % 100)
    have td := two_digits m
    have hs : ∀ t : ByteArray, t = str (Lib.decDigits (m / 10 % 10) ++ Lib.decDigits (m % 10)) → str (Lib.decDigits (m / 100)) ++ ⟨#[46]⟩ ++ t = shown (m : Int) := fun t ht => by
      unfold shown
      rw [if_pos (by omega), ht, dot, str_append, str_append, Int.toNat_natCast, List.append_assoc, List.append_assoc, List.append_assoc]
    have HS := Lib.hid hs
    clear hs h
    have Itoa1 := Lib.hid (show ∀ (k : Int) (w1 : World), k = ((m % 100 : Nat) : Int) → Calls Tryd.prog 8 #[.int .i64 k] w1 fun e w' => e = .returned (.string (str (Lib.decDigits (m % 100)))) ∧ w1 = w' from fun k w1 e => by subst e; exact (itoa_small_at (m % 100) (by omega) w1).mono fun e w' hw => ⟨hw.1, hw.2.symm⟩)
    have Itoa2 := Lib.hid (show ∀ (k : Int), k = ((m / 100 : Nat) : Int) → Calls Tryd.prog 8 #[.int .i64 k] w fun e w' => e = .returned (.string (str (Lib.decDigits (m / 100)))) ∧ Below w.heap.size w w' from fun k e => by
      subst e
      refine (itoa_at ((m / 100 : Nat) : Int) (by omega) (by omega) w htab).mono fun e w' hw => ?_
      obtain ⟨a, k, os, b⟩ := hw
      subst b
      refine ⟨?_, grow_below _ _ (Nat.le_refl _) _ _⟩
      rw [a]
      unfold Lib.itoa
      rw [if_neg (by omega), Int.toNat_natCast]
      rfl)
    clear htab
    have y1 : ¬ 9223372036854775807 < (str (Lib.decDigits (m / 100))).size + 1 := by rw [str_size]; omega
    have y2 : ¬ 9223372036854775807 < (str (Lib.decDigits (m / 100))).size + 1 + (1 + (str (Lib.decDigits (m % 100))).size) := by rw [str_size, str_size]; omega
    have y3 : ¬ 9223372036854775807 < (str (Lib.decDigits (m / 100))).size + 1 + (str (Lib.decDigits (m % 100))).size := by rw [str_size, str_size]; omega
    clear l1 l2
    have TD := Lib.hid td
    clear td
    by_cases hl : (Lib.decDigits (m % 100)).length < 2
    · have q1 : (str (Lib.decDigits (m % 100))).size < 2 := by rw [str_size]; exact hl
      have q2 : decide (((str (Lib.decDigits (m % 100))).size : Int) < 2) = true := decide_eq_true (by omega)
      have HL := Lib.hid hl
      clear hl
      go_enter Tryd.func5, Tryd.ntmps5
      go_wp2_with (go_at_call 8; first | (refine (Itoa1.out _ _ (by omega)).mono ?_; rintro e w1 ⟨rfl, rfl⟩) | (refine (Itoa2.out _ (by omega)).mono ?_; rintro e w1 ⟨rfl, hb⟩))
      go_ret
      have td := TD.out
      rw [if_pos HL.out] at td
      exact ⟨congrArg (fun s => Ending.returned (Value.string s)) (HS.out _ (by rw [← td]; exact str_append [48] _)), hb⟩
    · have q1 : ¬ (str (Lib.decDigits (m % 100))).size < 2 := by rw [str_size]; exact hl
      have q2 : decide (((str (Lib.decDigits (m % 100))).size : Int) < 2) = false := decide_eq_false (by omega)
      have HL := Lib.hid hl
      clear hl
      go_enter Tryd.func5, Tryd.ntmps5
      go_wp2_with (go_at_call 8; first | (refine (Itoa1.out _ _ (by omega)).mono ?_; rintro e w1 ⟨rfl, rfl⟩) | (refine (Itoa2.out _ (by omega)).mono ?_; rintro e w1 ⟨rfl, hb⟩))
      go_ret
      have td := TD.out
      rw [if_neg HL.out] at td
      exact ⟨congrArg (fun s => Ending.returned (Value.string s)) (HS.out _ (by rw [← td])), hb⟩
  · have hs : shown n = ⟨#[]⟩ := by unfold shown; rw [if_neg h]; rfl
    rw [hs]
    clear htab hs
    by_cases h0 : n < 0
    · have c1 : decide (n < 0) = true := decide_eq_true h0
      go_enter Tryd.func5, Tryd.ntmps5
      go_wp2
      go_ret
      exact ⟨rfl, Below.refl _ _⟩
    · have c1 : decide (n < 0) = false := decide_eq_false h0
      have c2 : decide (1000000 < n) = true := decide_eq_true (by omega)
      go_enter Tryd.func5, Tryd.ntmps5
      go_wp2
      go_ret
      exact ⟨rfl, Below.refl _ _⟩
set_option maxHeartbeats 4000000 in
set_option maxRecDepth 100000 in
theorem law_at (n : Int) (w : World) (htab : Lib.TabIs Tryd.prog w "internal/strconv.uint64pow10" .u64 Lib.pow10Tab) : Calls Tryd.prog 3 #[.int .i64 n] w fun e w' => e = .returned (.bool true) ∧ Below w.heap.size w w' := by
  have HS := Lib.hid (show ∀ k, Calls Tryd.prog 5 #[.int .i64 n] (w.drewN k) fun e w' => e = .returned (.string (shown n)) ∧ Below w.heap.size (w.drewN k) w' from fun k => impl_show n (w.drewN k) htab)
  clear htab
  go_enter Tryd.func3, Tryd.ntmps3
  go_wp2_with (first
    | (go_at_call 4; refine (spec_show n _).mono ?_; rintro e w1 ⟨rfl, k1, rfl⟩)
    | (go_at_call 5; refine (HS.out _).mono ?_; rintro e w1 ⟨rfl, hb⟩))
  go_ret
  exact ⟨rfl, Below.trans (show Below w.heap.size w (w.drewN k1) from ⟨rfl, rfl, rfl, Nat.le_refl _, fun _ _ => rfl⟩) hb⟩
end Go.Proofs.YtimjnncfnoggeaaDoor
