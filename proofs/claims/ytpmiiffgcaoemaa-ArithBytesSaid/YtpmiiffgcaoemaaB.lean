/-
  Contracts of the functions of package arith and of its reference: what each of them computes. Conditions: each word lies in its range.
-/
import Derived.Test.YtpmiiffgcaoemaaRows
import Derived.Test.YtpmiiffgcaoemaaA
import Derived.WalkKit
import Derived.ProofKit
import Derived.WalkLawsBesides
import Derived.Lib.Hide
import Derived.Outline
import Derived.Deep.QuietTactic
import Derived.BigQuiet
namespace Go.Proofs.Ytpmiiffgcaoemaa
open Go.RowKit Go.Lib

theorem ret_int {k : IntKind} {a b : Int} (h : a = b) : Ending.returned (.int k a) = .returned (.int k b) := by rw [h]

/-! ### package arith -/
theorem add_any (a b : Int) (w : World) : Calls Try.prog 27 #[.int .u32 a, .int .u32 b] w fun e w' => e = .returned (.int .u32 ((a + b) % 4294967296)) ∧ w = w' := by
  go_enter Try.func27, Try.ntmps27
  go_wp2
  go_ret
  exact ⟨rfl, rfl⟩
theorem sub_any (a b : Int) (w : World) : Calls Try.prog 29 #[.int .u32 a, .int .u32 b] w fun e w' => e = .returned (.int .u32 ((a - b) % 4294967296)) ∧ w = w' := by
  go_enter Try.func29, Try.ntmps29
  go_wp2
  go_ret
  exact ⟨rfl, rfl⟩
theorem mul_any (a b : Int) (w : World) : Calls Try.prog 31 #[.int .u32 a, .int .u32 b] w fun e w' => e = .returned (.int .u32 (a * b % 4294967296)) ∧ w = w' := by
  go_enter Try.func31, Try.ntmps31
  go_wp2
  go_ret
  exact ⟨rfl, rfl⟩
theorem sign_any (a : Int) (w : World) (h0 : 0 ≤ a) (h1 : a < 4294967296) : Calls Try.prog 25 #[.int .u32 a] w fun e w' => e = .returned (.int .i64 (sg a)) ∧ w = w' := by
  go_enter Try.func25, Try.ntmps25
  go_wp2
  go_ret
  exact ⟨ret_int (by rw [wrap32_sg a h0 h1]; have := sg_bd a h0 h1; unfold wrap64; omega), rfl⟩
theorem plain_any (a : Int) (w : World) (h0 : 0 ≤ a) (h1 : a < 4294967296) : Calls Try.prog 56 #[.int .u32 a] w fun e w' => e = .returned (.int .i64 a) ∧ w = w' := by
  go_enter Try.func56, Try.ntmps56
  go_wp2
  go_ret
  exact ⟨rfl, rfl⟩
theorem shl_any (a b : Int) (w : World) (hb : 0 ≤ b) (hb' : b < 4294967296) : Calls Try.prog 15 #[.int .u32 a, .int .u32 b] w fun e w' => e = .returned (.int .u32 (a * p2 b % 4294967296)) ∧ w = w' := by
  have h := and31 b hb hb'
  go_enter Try.func15, Try.ntmps15
  go_wp2
  go_ret
  exact ⟨rfl, rfl⟩
theorem shr_any (a b : Int) (w : World) (hb : 0 ≤ b) (hb' : b < 4294967296) : Calls Try.prog 17 #[.int .u32 a, .int .u32 b] w fun e w' => e = .returned (.int .u32 (a / p2 b)) ∧ w = w' := by
  have h := and31 b hb hb'
  go_enter Try.func17, Try.ntmps17
  go_wp2
  go_ret
  exact ⟨rfl, rfl⟩
theorem sar_any (a b : Int) (w : World) (h0 : 0 ≤ a) (h1 : a < 4294967296) (hb : 0 ≤ b) (hb' : b < 4294967296) : Calls Try.prog 19 #[.int .u32 a, .int .u32 b] w fun e w' => e = .returned (.int .u32 (sg a / p2 b % 4294967296)) ∧ w = w' := by
  have h := and31 b hb hb'
  go_enter Try.func19, Try.ntmps19
  go_wp2
  go_ret
  exact ⟨ret_int (by rw [wrap32_sg a h0 h1]; rfl), rfl⟩
theorem less_any (a b : Int) (w : World) (h0 : 0 ≤ a) (h1 : a < 4294967296) (hb : 0 ≤ b) (hb' : b < 4294967296) : Calls Try.prog 21 #[.int .u32 a, .int .u32 b] w fun e w' => e = .returned (.bool (decide (sg a < sg b))) ∧ w = w' := by
  go_enter Try.func21, Try.ntmps21
  go_wp2
  go_ret
  exact ⟨by rw [← wrap32_sg a h0 h1, ← wrap32_sg b hb hb']; rfl, rfl⟩
theorem lessu_any (a b : Int) (w : World) : Calls Try.prog 23 #[.int .u32 a, .int .u32 b] w fun e w' => e = .returned (.bool (decide (a < b))) ∧ w = w' := by
  go_enter Try.func23, Try.ntmps23
  go_wp2
  go_ret
  exact ⟨rfl, rfl⟩
/-- 'Extend' where a number of bits has been chosen. -/
theorem extend_in (n b : Int) (w : World) (hb : 1 ≤ b) (hb' : b ≤ 32) :
    Calls Try.prog 12 #[.int .u32 n, .int .i64 b] w fun e w' => e = .returned (.int .u32 (sg (n * p2 (32 - b) % 4294967296) / p2 (32 - b) % 4294967296)) ∧ w = w' := by
  go_enter Try.func12, Try.ntmps12
  go_wp2_with (first | (go_at_call 15; refine (shl_any _ _ _ (by omega) (by omega)).mono ?_; rintro e w' ⟨rfl, rfl⟩) | (go_at_call 19; refine (sar_any _ _ _ (by omega) (by omega) (by omega) (by omega)).mono ?_; rintro e w' ⟨rfl, rfl⟩))
  go_ret
  exact ⟨rfl, rfl⟩
theorem ext_whole (n : Int) (h0 : 0 ≤ n) (h1 : n < 4294967296) : sg (n * p2 0 % 4294967296) / p2 0 % 4294967296 = n := by
  have e : p2 0 = 1 := by decide
  have h := sg_mod n h0 h1
  rw [e, Int.mul_one, Int.ediv_one, Int.emod_eq_of_lt h0 h1]
  exact h
theorem extend_out (n b : Int) (w : World) (h0 : 0 ≤ n) (h1 : n < 4294967296) (hb : b < 1 ∨ 32 < b) :
    Calls Try.prog 12 #[.int .u32 n, .int .i64 b] w fun e w' => e = .returned (.int .u32 n) ∧ w = w' := by
  rcases hb with hb | hb
  all_goals
    go_enter Try.func12, Try.ntmps12
    go_wp2_with (first | (go_at_call 15; refine (shl_any _ _ _ (by omega) (by omega)).mono ?_; rintro e w' ⟨rfl, rfl⟩) | (go_at_call 19; refine (sar_any _ _ _ (by omega) (by omega) (by omega) (by omega)).mono ?_; rintro e w' ⟨rfl, rfl⟩))
    go_ret
    exact ⟨ret_int (ext_whole n h0 h1), rfl⟩

/-! ### the reference -/
theorem rsign_any (a : Int) (w : World) (h0 : 0 ≤ a) (h1 : a < 4294967296) : Calls Try.prog 26 #[.int .u32 a] w fun e w' => e = .returned (.int .i64 (sg a)) ∧ w = w' := by
  by_cases h : a < 2147483648
  · have e : sg a = a := by unfold sg; rw [if_pos h]
    rw [e]; clear e
    go_enter Try.func26, Try.ntmps26
    go_wp2
    go_ret
    exact ⟨rfl, rfl⟩
  · have e : sg a = a - 4294967296 := by unfold sg; rw [if_neg h]
    rw [e]; clear e
    go_enter Try.func26, Try.ntmps26
    go_wp2
    go_ret
    exact ⟨rfl, rfl⟩
theorem word_any (x : Int) (w : World) (h0 : -9223372036854775808 ≤ x) (h1 : x ≤ 9223372036854775807) : Calls Try.prog 48 #[.int .i64 x] w fun e w' => e = .returned (.int .u32 (x % 4294967296)) ∧ w = w' := by
  by_cases h : 0 ≤ x
  · go_enter Try.func48, Try.ntmps48
    go_wp2
    go_ret
    exact ⟨ret_int (by omega), rfl⟩
  · have e : x.tmod 4294967296 = -((-x) % 4294967296) := by
      have e0 : x = -(-x) := by omega
      rw [e0, Int.neg_tmod, Int.tmod_eq_emod_of_nonneg (by omega), Int.neg_neg]
    have E := hid e; clear e
    go_enter Try.func48, Try.ntmps48
    go_wp2
    all_goals
      have h2 : x.tmod 4294967296 < 0 ∨ 0 ≤ x.tmod 4294967296 := by omega
      have e := E.out
      go_ret
      refine ⟨ret_int ?_, rfl⟩
      try unfold wrap64
      omega
theorem rdown_any (x : Int) (w : World) (h0 : -9223372036854775808 ≤ x) (h1 : x ≤ 9223372036854775807) : Calls Try.prog 54 #[.int .i64 x] w fun e w' => e = .returned (.int .i64 (x / 4294967296)) ∧ w = w' := by
  by_cases h : 0 ≤ x
  · go_enter Try.func54, Try.ntmps54
    go_wp2
    go_ret
    exact ⟨rfl, rfl⟩
  · have b1 := tdiv_mul_bd x 4294967296 (by omega) (by omega)
    have b2 := tdiv_bd x 4294967296 (by omega) (by omega)
    by_cases hq : x.tdiv 4294967296 * 4294967296 = x
    · have e := down_neg_eq x 4294967296 (by omega) (by omega) hq
      have hq' : (x.tdiv 4294967296 * 4294967296 != x) = false := by simp [hq]
      rw [← e]; clear e hq
      go_enter Try.func54, Try.ntmps54
      go_wp2
      go_ret
      exact ⟨rfl, rfl⟩
    · have e := down_neg_ne x 4294967296 (by omega) (by omega) hq
      have hq' : (x.tdiv 4294967296 * 4294967296 != x) = true := by simp [hq]
      rw [← e]; clear e hq
      go_enter Try.func54, Try.ntmps54
      go_wp2
      go_ret
      exact ⟨rfl, rfl⟩
theorem power_any (n : Int) (w : World) (h0 : 0 ≤ n) (h1 : n < 4294967296) : Calls Try.prog 47 #[.int .u32 n] w fun e w' => e = .returned (.int .i64 (p2 n)) ∧ w = w' := by
  obtain ⟨m, hm⟩ : ∃ m : Nat, m = (n % 32).toNat := ⟨_, rfl⟩
  have hp : p2 n = pk m := by unfold p2; rw [hm]
  rw [hp]
  have hn : n % 32 ≤ (m : Int) := by omega
  have hn' : (m : Int) ≤ n % 32 := by omega
  clear hp hm
  go_enter Try.func47, Try.ntmps47
  go_wp2
  go_loop [3, 4] (fun p i => ∃ k : Nat, k ≤ m ∧ i = .int .u32 k ∧ p = .int .i64 (pk k)) (fun _ i => m - (intOf i).toNat)
  case atStart => exact ⟨0, Nat.zero_le _, rfl, rfl⟩
  case round =>
    obtain ⟨k, hk, rfl, rfl⟩ := hrel
    have hp0 := pk_pos k
    have hp1 := pk_le k (by omega)
    by_cases hlt : k < m
    · go_wp2
      go_round
      case rel => exact ⟨k + 1, by omega, by go_num, by rw [pk_succ]⟩
      case measure => simp [intOf]; omega
    · obtain rfl : k = m := by omega
      go_wp2
      go_ret
      exact ⟨rfl, rfl⟩
theorem rshl_any (a n : Int) (w : World) (a0 : 0 ≤ a) (a1 : a < 4294967296) (h0 : 0 ≤ n) (h1 : n < 4294967296) : Calls Try.prog 16 #[.int .u32 a, .int .u32 n] w fun e w' => e = .returned (.int .u32 (a * p2 n % 4294967296)) ∧ w = w' := by
  obtain ⟨m, hm⟩ : ∃ m : Nat, m = (n % 32).toNat := ⟨_, rfl⟩
  have hp : p2 n = pk m := by unfold p2; rw [hm]
  rw [hp]
  have hn : n % 32 ≤ (m : Int) := by omega
  have hn' : (m : Int) ≤ n % 32 := by omega
  clear hp hm
  go_enter Try.func16, Try.ntmps16
  go_wp2
  go_loop [0, 5] (fun p i => ∃ k : Nat, k ≤ m ∧ i = .int .u32 k ∧ p = .int .u32 (a * pk k % 4294967296)) (fun _ i => m - (intOf i).toNat)
  case atStart => exact ⟨0, Nat.zero_le _, rfl, by rw [pk_zero, Int.mul_one, Int.emod_eq_of_lt a0 a1]⟩
  case round =>
    obtain ⟨k, hk, rfl, rfl⟩ := hrel
    by_cases hlt : k < m
    · go_wp2_with (go_at_call 48; refine (word_any _ _ (by omega) (by omega)).mono ?_; rintro e w' ⟨rfl, rfl⟩)
      go_round
      case rel => exact ⟨k + 1, by omega, by go_num, by rw [pk_succ, ← Int.mul_assoc, mod_twice]⟩
      case measure => simp [intOf]; omega
    · obtain rfl : k = m := by omega
      go_wp2
      go_ret
      exact ⟨rfl, rfl⟩
end Go.Proofs.Ytpmiiffgcaoemaa
