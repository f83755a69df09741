/- slices.Backward over a slice of ints: what it hands back, and that a loop over it comes to all elements from behind. -/
import Derived.RangeFuncBox
import Derived.RangeFuncLeaves
import Derived.RangeFuncFrom
import Derived.Shelf.Abstract
import Derived.WalkKit
import Derived.OwnWalkIn
import Derived.TacticsInMore
import Derived.LoopNIn
import Derived.LoopIn
import Derived.Test.YtnilffafnghngaaProg
import Derived.Test.YtnilffafnghngaaWWords
set_option linter.unusedVariables false
namespace Go.Proofs.Ytnilffafnghngaa.Back
open Go.RowKit Go.Shelf Go.Proofs.YtnilffafnghngaaW.PrintWords
attribute [local go_sem] Oper.semAt_some
def upto {α : Type} (f : Nat → α) (k : Nat) : List α := (List.range k).map f
theorem upto_succ {α : Type} (f : Nat → α) (k : Nat) : upto f (k + 1) = upto f k ++ [f k] := by simp [upto, List.range_succ]
theorem upto_length {α : Type} (f : Nat → α) (k : Nat) : (upto f k).length = k := by simp [upto]
/-- The box and the slice's block are as they were. -/
def Keep (Bs b : Nat) (A C : World) : Prop := C.heap[Bs]? = A.heap[Bs]? ∧ C.heap[b]? = A.heap[b]?
theorem Keep.refl (Bs b : Nat) (A : World) : Keep Bs b A A := ⟨rfl, rfl⟩
theorem Keep.trans {Bs b : Nat} {A C D : World} (h : Keep Bs b A C) (k : Keep Bs b C D) : Keep Bs b A D := ⟨k.1.trans h.1, k.2.trans h.2⟩
theorem Keep.box {Bs b : Nat} {A C : World} (h : Keep Bs b A C) {v : Value} (hc : A.cell? ⟨Bs, 0, none⟩ = some v) : C.cell? ⟨Bs, 0, none⟩ = some v := by simpa [World.cell?, h.1] using hc
theorem add_blk (ad : Addr) (j : Nat) : (ad.add j).block = ad.block := by unfold Addr.add; split <;> rfl
theorem Keep.row {Bs : Nat} {ad : Addr} {A C : World} (h : Keep Bs ad.block A C) {j : Nat} {v : Value} (hc : A.cell? (ad.add j) = some v) : C.cell? (ad.add j) = some v :=
  (World.cell?_of_block (w := A) (by rw [add_blk]; exact h.2)).trans hc
theorem Keep.turn {Bs b : Nat} {w : World} (h1 : Bs < w.heap.size) (h2 : b < w.heap.size) (W : World) (l : Nat) (o' : Obj) (hl : w.heap.size ≤ l) : Keep Bs b W (W.putObj l o') :=
  ⟨World.putObj_heap_other (by omega), World.putObj_heap_other (by omega)⟩
/-- The pairs that come: places and numbers, from behind. -/
def pairs (zs : List Int) : List (Int × Int) := upto (fun j => ((zs.length : Int) - 1 - j, zs.getD (zs.length - 1 - j) 0)) zs.length
theorem pairs_snd (zs : List Int) : (pairs zs).map Prod.snd = zs.reverse := by
  apply List.ext_getElem
  · simp [pairs, upto]
  · intro i h1 h2
    simp [pairs, upto] at h1 h2 ⊢
    rw [List.getElem?_eq_getElem (by omega)]
    simp
set_option maxRecDepth 100000 in
set_option maxHeartbeats 4000000 in
theorem back1_in (F : Fence) (n : Nat) (h75 : F.fn 75) (hro : F.round = none) (hn : 1 ≤ n) (l Bs len cap : Nat) (ad : Addr) (zs : List Int) (hlen : len ≤ 9223372036854775807) (J Jx : List (Int × Int) → World → Prop)
    (hY : ∀ pre x W, J pre W → pre.length < len → YieldAt F (n - 1) Try.prog l #[.int .i64 x.1, .int .i64 x.2] W fun e W' =>
      (e = .returned (.bool true) ∧ J (pre ++ [x]) W' ∧ Keep Bs ad.block W W') ∨ (e = .returned (.bool false) ∧ Jx (pre ++ [x]) W'))
    (W : World) (hBs : W.cell? ⟨Bs, 0, none⟩ = some (.slice (some ad) len cap)) (hc : ∀ j, j < len → W.cell? (ad.add j) = some (.int .i64 (zs.getD j 0))) (h0 : J [] W) :
    CallsIn F n Try.prog 75 #[.func (.yield l) #[] #[], .pointer (some ⟨Bs, 0, none⟩)] W fun e W' => (∃ v, e = .returned v) ∧
      ((∃ ys, ys = upto (fun j => ((len : Int) - 1 - j, zs.getD (len - 1 - j) 0)) len ∧ J ys W') ∨ (∃ pre, True ∧ Jx pre W')) := by
  refine callsIn_of_wp Try.func75 rfl h75 ?_ hro
  simp only [Try.ntmps75, List.size_toArray, List.length_cons, List.length_nil, Nat.reduceAdd, Nat.reduceSub, Array.replicate_succ, Array.replicate_zero, List.push_toArray, List.append_toArray, List.nil_append, List.cons_append]
  gi_wp2
  gi_loopw [3] (fun i wr => ∃ k : Nat, k ≤ len ∧ i = .int .i64 ((len : Int) - 1 - k) ∧ J (upto (fun j => ((len : Int) - 1 - j, zs.getD (len - 1 - j) 0)) k) wr ∧ Keep Bs ad.block W wr)
    (fun i _ => (intOf i + 1).toNat)
  case atStart => exact ⟨0, Nat.zero_le _, by first | (simp; done) | (simp; unfold wrap64; omega), h0, Keep.refl _ _ _⟩
  case round =>
    obtain ⟨k, hk, rfl, hJs, hnx⟩ := hrel
    have hBs' : wr.cell? ⟨Bs, 0, none⟩ = some (.slice (some ad) len cap) := hnx.box hBs
    have hcx : k < len → wr.cell? (ad.add (len - 1 - k)) = some (.int .i64 (zs.getD (len - 1 - k) 0)) := fun h => hnx.row (hc _ (by omega))
    by_cases hlt : k < len
    · obtain ⟨fn, tmps, assign, body, hy, hR⟩ := hY _ ((len : Int) - 1 - k, zs.getD (len - 1 - k) 0) wr hJs (by rw [upto_length]; exact hlt)
      dsimp only at hy
      have hcx' := hcx hlt
      obtain ⟨m, hm⟩ : ∃ m, Hid (len - 1 - k = m) := ⟨_, rfl⟩
      have e0 : Hid ((len : Int) - 1 - k = ((m : Nat) : Int)) := by have := hm.out; show _ = _; omega
      rw [e0.out] at hy ⊢
      rw [hm.out] at hy hcx'
      simp only [List.getD_eq_getElem?_getD] at hy hcx'
      have hml : m < len := by have := hm.out; omega
      gi_wp2
      refine hR.mono ?_
      rintro e W3 (⟨rfl, hJ3, hk3⟩ | ⟨rfl, hJx3⟩)
      · gi_wp2
        go_roundw
        case rel => exact ⟨k + 1, by omega, by have := e0.out; first | (congr 1; omega) | (congr 1; unfold wrap64; omega) | (simp; omega), by rw [upto_succ]; exact hJ3, hnx.trans hk3⟩
        case measure => first | (simp [intOf]; done) | (simp [intOf]; omega) | (simp [intOf]; unfold wrap64; omega)
      · gi_wp2
        refine bodyPost_ret (results_none rfl _ _ _) rfl ?_
        exact ⟨⟨_, rfl⟩, .inr ⟨_, trivial, hJx3⟩⟩
    · obtain rfl : k = len := by omega
      gi_wp2
      go_end0
      exact ⟨⟨_, rfl⟩, .inl ⟨_, rfl, hJs⟩⟩
set_option maxRecDepth 100000 in
set_option maxHeartbeats 1000000 in
theorem back1_nil_in (F : Fence) (n : Nat) (h75 : F.fn 75) (hro : F.round = none) (l Bs cap : Nat) (A : Option Addr) (J : List (Int × Int) → World → Prop) (W : World) (hBs : W.cell? ⟨Bs, 0, none⟩ = some (.slice A 0 cap)) (h0 : J [] W) :
    CallsIn F n Try.prog 75 #[.func (.yield l) #[] #[], .pointer (some ⟨Bs, 0, none⟩)] W fun e W' => (∃ v, e = .returned v) ∧ J [] W' := by
  refine callsIn_of_wp Try.func75 rfl h75 ?_ hro
  simp only [Try.ntmps75, List.size_toArray, List.length_cons, List.length_nil, Nat.reduceAdd, Nat.reduceSub, Array.replicate_succ, Array.replicate_zero, List.push_toArray, List.append_toArray, List.nil_append, List.cons_append]
  gi_wp2
  gi_loopw [3] (fun i wr => i = .int .i64 (-1) ∧ J [] wr) (fun _ _ => 0)
  case atStart => exact ⟨by first | rfl | simp, h0⟩
  case round =>
    obtain ⟨rfl, hJs⟩ := hrel
    gi_wp2
    go_end0
    exact ⟨⟨_, rfl⟩, hJs⟩
set_option maxHeartbeats 1000000 in
theorem back_in (F : Fence) (n : Nat) (h65 : F.fn 65) (hro : F.round = none) (a : Option Addr) (len cap : Nat) (w : World) :
    CallsIn F n Try.prog 65 #[.slice a len cap] w fun e w' => e = .returned (.func (.func 75) #[] #[.pointer (some ⟨w.heap.size, 0, none⟩)]) ∧ w' = w.alloc (.cells #[.slice a len cap] 30) := by
  refine callsIn_of_wp Try.func65 rfl h65 ?_ hro
  simp only [Try.ntmps65, List.size_toArray, List.length_cons, List.length_nil, Nat.reduceAdd, Nat.reduceSub, Array.replicate_succ, Array.replicate_zero, List.push_toArray, List.append_toArray, List.nil_append, List.cons_append]
  gi_wp2
  go_ret
  exact ⟨rfl, rfl⟩
/-- The slice's block, if it holds something. -/
def blk (A : Option Addr) (zs : List Int) : Nat := match A, zs with
  | some p, _ :: _ => p.block
  | _, _ => 0
/-- **A loop over what Backward hands back comes to all elements, from behind; a round must keep Backward's box and the slice's block.** -/
theorem back_stops (F : Fence) (n : Nat) (h75 : F.fn 75) (hro : F.round = none) (hn : 1 ≤ n) (Bs cap : Nat) (A : Option Addr) (zs : List Int) (w : World) (hBs : Bs < w.heap.size)
    (hc : w.cell? ⟨Bs, 0, none⟩ = some (.slice A zs.length cap)) (hI : Kd.C (Kd.int .i64) w A zs.length zs) :
    SeqStopsK F n Try.prog 75 #[.pointer (some ⟨Bs, 0, none⟩)] (fun x : Int × Int => #[Value.int .i64 x.1, Value.int .i64 x.2]) (Keep Bs (blk A zs)) (fun ys => ys = pairs zs) (fun _ => True) zs.length w := fun l J Jx W hW _ _ hY h0 => by
  have hc' := (hW.cell (p := ⟨Bs, 0, none⟩) hBs).trans hc
  have hR := Kd.reads_of_C (enc := Value.int .i64) (d := (0 : Int)) (h1 := fun _ => rfl) hI
  by_cases hz : 0 < zs.length
  · obtain ⟨ad, rfl, hcs⟩ := hR.2.2 hz
    have hcs' : ∀ j, j < zs.length → W.cell? (ad.add j) = some (.int .i64 (zs.getD j 0)) := fun j hj => (hW.cell (by exact World.block_lt_of_cell? w _ (hcs j hj))).trans (hcs j hj)
    have hb : blk (some ad) zs = ad.block := by cases zs with | nil => simp at hz | cons _ _ => rfl
    rw [hb] at hY
    exact back1_in F n h75 hro hn l Bs zs.length cap ad zs hR.2.1 J Jx hY W hc' hcs' h0
  · obtain rfl : zs = [] := List.length_eq_zero_iff.1 (by omega)
    exact (back1_nil_in F n h75 hro l Bs cap A J W hc' h0).mono fun e W' ⟨he, hj⟩ => ⟨he, .inl ⟨_, rfl, hj⟩⟩
/-- The block of a slice that holds something lies in the heap. -/
theorem blk_lt {A : Option Addr} {zs : List Int} {w : World} (hI : Kd.C (Kd.int .i64) w A zs.length zs) : blk A zs = 0 ∨ blk A zs < w.heap.size := by
  have hR := Kd.reads_of_C (enc := Value.int .i64) (d := (0 : Int)) (h1 := fun _ => rfl) hI
  cases zs with
  | nil => exact .inl (by cases A <;> rfl)
  | cons z zs =>
    obtain ⟨ad, rfl, hcs⟩ := hR.2.2 (by simp)
    have := World.block_lt_of_cell? w _ (hcs 0 (by simp))
    rw [add_blk] at this
    exact .inr this
theorem boxed_own {A C : World} {Bx : Nat} {t : TypeId} {v : Value} {row : Option Nat} (hs : Boxed A Bx t v) (hg : A.grownBy C row) (hr : ∀ r, row = some r → ∃ o : Obj, A.heap[r]? = some o ∧ o.isCells = false) : Boxed C Bx t v :=
  hs.kept hg (fun e => by obtain ⟨o, ho, hc⟩ := hr _ e.symm; rw [show A.heap[Bx]? = _ from hs] at ho; cases ho; cases hc)
theorem boxed_other {A : World} {Bx By : Nat} {t : TypeId} {v : Value} (hs : Boxed A Bx t v) (u : Value) (h : Bx ≠ By) : Boxed (A.setCell ⟨By, 0, none⟩ u) Bx t v := (Below.heap_setCell _ _ _ _ h).trans hs
theorem Keep.set {Bs b By : Nat} (W : World) (u : Value) (h1 : Bs ≠ By) (h2 : b ≠ By) : Keep Bs b W (W.setCell ⟨By, 0, none⟩ u) := ⟨Below.heap_setCell _ _ _ _ h1, Below.heap_setCell _ _ _ _ h2⟩
def stepP (x v c : Int) : Int := Int.tmod (wrap64 (wrap64 (v * x) + c)) 251
/-- The value of the polynomial, from behind. -/
def polyBack (zs : List Int) (x : Int) : Int := zs.reverse.foldl (stepP x) 0
def valOf (x : Int) (pre : List (Int × Int)) : Int := pre.foldl (fun v p => stepP x v p.2) 0
theorem valOf_snoc (x : Int) (pre : List (Int × Int)) (p : Int × Int) : valOf x (pre ++ [p]) = stepP x (valOf x pre) p.2 := by simp [valOf]
theorem valOf_pairs (x : Int) (zs : List Int) : valOf x (pairs zs) = polyBack zs x := by
  unfold valOf polyBack
  rw [← pairs_snd, List.foldl_map]
/-- What impl.PolyAt answers; t: whether the coefficients are valid. -/
def polyAns (t : Bool) (zs : List Int) (x : Int) : Int := if t = true then (if x < 0 then -1 else if x > 250 then -1 else polyBack zs x) else -1
set_option maxRecDepth 100000 in
set_option maxHeartbeats 4000000 in
theorem polyAt_in (F : Fence) (n : Nat) (h42 : F.fn 42) (h39 : F.fn 39) (h65 : F.fn 65) (h75 : F.fn 75) (hro : F.round = none) (hn : 3 ≤ n) (A : Option Addr) (cap : Nat) (zs : List Int) (x : Int) (t : Bool) (w : World) (hI : Kd.C (Kd.int .i64) w A zs.length zs)
    (hv : ∀ W, Kd.C (Kd.int .i64) W A zs.length zs → CallsIn F (n - 1) Try.prog 39 #[.slice A zs.length cap] W fun e w' => e = .returned (.bool t) ∧ Drawn0 W w') :
    CallsIn F n Try.prog 42 #[.slice A zs.length cap, .int .i64 x] w fun e W' => e = .returned (.int .i64 (polyAns t zs x)) ∧ Below w.heap.size w W' := by
  have h1 : 1 ≤ n := by omega
  have arm : ∀ (W1 W2 : World), Below w.heap.size w W1 → Drawn0 W1 W2 → Below w.heap.size w W2 := fun W1 W2 hb ⟨m, e⟩ => by subst e; exact ⟨hb.os, hb.tape, hb.output, hb.size, hb.block⟩
  by_cases ht : t = true
  rotate_left
  · have ht' : t = false := by simpa using ht
    subst ht'
    refine callsIn_of_wp_marks Try.func42 rfl h42 ?_ hro
    simp only [Try.ntmps42, List.size_toArray, List.length_cons, List.length_nil, Nat.reduceAdd, Nat.reduceSub, Array.replicate_succ, Array.replicate_zero, List.push_toArray, List.append_toArray, List.nil_append, List.cons_append]
    gi_wp2_with (gi_at_call 39; refine (hv _ ?side).mono ?_; (case side => exact Kd.C_below hI ((Below.refl _ w).alloc (Nat.le_refl _) _)); rintro e w' ⟨rfl, m, rfl⟩)
    exact ⟨_, results_tmp rfl _ _ _, rfl, arm _ _ ((Below.refl _ w).alloc (Nat.le_refl _) _) ⟨_, rfl⟩⟩
  subst ht
  by_cases hx : x < 0 ∨ 250 < x
  · have hans : polyAns true zs x = -1 := by
      unfold polyAns
      rw [if_pos rfl]
      by_cases h0 : x < 0
      · rw [if_pos h0]
      · rw [if_neg h0, if_pos (by omega)]
    rw [hans]
    by_cases h0 : x < 0
    · refine callsIn_of_wp_marks Try.func42 rfl h42 ?_ hro
      simp only [Try.ntmps42, List.size_toArray, List.length_cons, List.length_nil, Nat.reduceAdd, Nat.reduceSub, Array.replicate_succ, Array.replicate_zero, List.push_toArray, List.append_toArray, List.nil_append, List.cons_append]
      gi_wp2_with (gi_at_call 39; refine (hv _ ?side).mono ?_; (case side => exact Kd.C_below hI ((Below.refl _ w).alloc (Nat.le_refl _) _)); rintro e w' ⟨rfl, m, rfl⟩)
      exact ⟨_, results_tmp rfl _ _ _, rfl, arm _ _ ((Below.refl _ w).alloc (Nat.le_refl _) _) ⟨_, rfl⟩⟩
    · have h2 : 250 < x := by omega
      clear hx
      refine callsIn_of_wp_marks Try.func42 rfl h42 ?_ hro
      simp only [Try.ntmps42, List.size_toArray, List.length_cons, List.length_nil, Nat.reduceAdd, Nat.reduceSub, Array.replicate_succ, Array.replicate_zero, List.push_toArray, List.append_toArray, List.nil_append, List.cons_append]
      gi_wp2_with (gi_at_call 39; refine (hv _ ?side).mono ?_; (case side => exact Kd.C_below hI ((Below.refl _ w).alloc (Nat.le_refl _) _)); rintro e w' ⟨rfl, m, rfl⟩)
      exact ⟨_, results_tmp rfl _ _ _, rfl, arm _ _ ((Below.refl _ w).alloc (Nat.le_refl _) _) ⟨_, rfl⟩⟩
  · have hx1 : 0 ≤ x := by omega
    have hx2 : x ≤ 250 := by omega
    have hans : polyAns true zs x = polyBack zs x := by
      unfold polyAns
      rw [if_pos rfl, if_neg (by omega), if_neg (by omega)]
    rw [hans]
    clear hx
    have d1 : decide (x < 0) = false := decide_eq_false (by omega)
    have d2 : decide (250 < x) = false := decide_eq_false (by omega)
    refine callsIn_of_wp_marks Try.func42 rfl h42 ?_ hro
    simp only [Try.ntmps42, List.size_toArray, List.length_cons, List.length_nil, Nat.reduceAdd, Nat.reduceSub, Array.replicate_succ, Array.replicate_zero, List.push_toArray, List.append_toArray, List.nil_append, List.cons_append]
    gi_wp2_with (first
      | (gi_at_call 39; refine (hv _ ?side).mono ?_; (case side => exact Kd.C_below hI ((Below.refl _ w).alloc (Nat.le_refl _) _)); rintro e w' ⟨rfl, m, rfl⟩)
      | (gi_at_call 65; refine (back_in F (n - 1) h65 hro _ _ _ _).mono ?_; rintro e w' ⟨rfl, rfl⟩))
    have bX := ((Boxed.new w 3 (.int .i64 x)))
    obtain ⟨w1, hw1⟩ : ∃ w1, w1 = (w.alloc (.cells #[.int .i64 x] 3)).drewN m := ⟨_, rfl⟩
    have hB1 : Below w.heap.size w w1 := arm _ _ ((Below.refl _ w).alloc (Nat.le_refl _) _) ⟨m, hw1⟩
    have hs1 : w1.heap.size = w.heap.size + 1 := by rw [hw1]; simp
    have bX1 : Boxed w1 w.heap.size 3 (.int .i64 x) := by rw [hw1]; exact bX
    rw [← hw1]
    clear hw1 bX
    have bX2 := (bX1.alloc (.cells #[.int .i64 0] 3)).alloc (.cells #[.slice A zs.length cap] 30)
    have bV := (Boxed.new w1 3 (.int .i64 0)).alloc (.cells #[.slice A zs.length cap] 30)
    have bS := Boxed.new (w1.alloc (.cells #[.int .i64 0] 3)) 30 (.slice A zs.length cap)
    rw [World.size_alloc] at bS
    rw [hs1] at bV bS
    have hB0 : Below w.heap.size w ((w1.alloc (.cells #[.int .i64 0] 3)).alloc (.cells #[.slice A zs.length cap] 30)) := (hB1.alloc (by omega) _).alloc (by simp; omega) _
    have hbk := blk_lt hI
    have hI0 := Kd.C_below hI hB0
    refine wpIn_rangeFunc_ownG hro h1 (gf := 75) (lb := #[.pointer (some ⟨w.heap.size + 1 + 1, 0, none⟩)]) rfl h75 (enters_of Try.func75 (by kernel_rfl) rfl)
      (back_stops F (n - 1) h75 hro (by omega) (w.heap.size + 1 + 1) cap A zs _ bS.lt bS.cell hI0) Keep.trans (fun W l o o' hl _ _ _ => Keep.turn (by simp; omega) (by simp; omega) W l o' hl) (Below.refl _ _) (fun _ => rfl)
      (fun pre W => (Boxed W (w.heap.size + 1) 3 (.int .i64 (valOf x pre)) ∧ Boxed W w.heap.size 3 (.int .i64 x)) ∧ Below w.heap.size w W)
      (fun _ _ _ => False)
      (OwnFrom.and (fun s A B row hs hg hr => ⟨boxed_own hs.1 hg (fun r e => (hr r e).2), boxed_own hs.2 hg (fun r e => (hr r e).2)⟩) (ownFrom_below (Nat.le_refl _) (by simp; omega)))
      (fun _ _ _ _ _ hs _ _ => hs)
      ⟨⟨bV, bX2⟩, hB0⟩
      (fun p => { tmps := #[.slice A zs.length cap, .int .i64 x, undef, .pointer (some ⟨w.heap.size, 0, none⟩), .int .i64 0, .pointer (some ⟨w.heap.size + 1, 0, none⟩), undef, .int .i64 p.2, .slice A zs.length cap, .bool true, .bool false, .bool false, .int .i64 x, .bool false, .bool false, .bool false, .int .i64 x, .bool false, .bool false, .slice A zs.length cap, .func (.func 75) #[] #[.pointer (some ⟨w.heap.size + 1 + 1, 0, none⟩)], .int .i64 p.1, .int .i64 p.2, undef, undef, undef, undef, undef, undef, undef], defers := [] }) ?assign ?body ?done ?stop
    case assign =>
      intro l p W K hK
      gi_wp2
      exact hK
    case body =>
      rintro l pre p W ⟨⟨bv, bx⟩, hB⟩ hlt
      have c1 := bv.cell
      have c2 := bx.cell
      have f1 := bv.frozen
      gi_wp2
      exact ⟨(KeepsOthers.setCell _ _ _).from _, Keep.set _ _ (by omega) (by omega), ⟨by rw [valOf_snoc]; exact bv.set _, boxed_other bx _ (by omega)⟩, hB.setCell (p := ⟨w.heap.size + 1, 0, none⟩) (Nat.le_succ _) _⟩
    case done =>
      rintro D ys W hD rfl ⟨⟨bv, bx⟩, hB⟩ hK
      have c1 := bv.cell
      rw [valOf_pairs] at c1
      gi_wp2
      refine ⟨by simp, .inl ⟨_, _, rfl, run_takeDeferred hK, ?_⟩⟩
      exact ⟨_, results_tmp rfl _ _ _, rfl, hB.trans (belowK_b (w := w) (Nat.le_refl _) W D _ _ (by simp at hD; omega) hK rfl rfl)⟩
    case stop =>
      rintro D c pre W _ _ h _
      exact h.elim
#print axioms polyAt_in
end Go.Proofs.Ytnilffafnghngaa.Back
