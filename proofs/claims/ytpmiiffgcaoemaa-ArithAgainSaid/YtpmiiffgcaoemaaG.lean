/-
  The walks of 'ArithAgain', a theorem for each of its three ways (the second word is nought; it is a multiple of 32; neither). Conditions: each word lies in its range.
-/
import Derived.Test.YtpmiiffgcaoemaaD
namespace Go.Proofs.Ytpmiiffgcaoemaa
open Go.RowKit Go.Lib
theorem fell_lt (a b : Int) (h0 : 0 ≤ a) (h1 : a < 4294967296) : (a - a / p2 (b % 32) * p2 (b % 32)) % 4294967296 < 2 ^ (b % 32).toNat % 4294967296 := by
  have hp := p2_bd b
  have e := fell_bd a (p2 b) h0 h1 hp.1
  have e2 : ∀ x : Int, (a - x % 4294967296) % 4294967296 = (a - x) % 4294967296 := fun x => by omega
  rw [e2] at e
  have hs : (2 : Int) ^ (b % 32).toNat % 4294967296 = p2 b := shl_one b
  rw [p2_mod, e, hs]
  exact Int.emod_lt_of_pos _ (by omega)
theorem walk_some (a b : Int) (n0 : 0 ≤ a ∧ a < 4294967296) (n1 : 0 ≤ b ∧ b < 4294967296) (hz : 0 < b) (hn : 0 < b % 32) (hl : (sg a < sg b ∧ (a == b) = false) ∨ (sg b < sg a ∧ (a == b) = false) ∨ (sg a ≤ sg b ∧ sg b ≤ sg a ∧ (a == b) = true)) (w : World) :
    Calls Try.prog 11 #[.int .u32 a, .int .u32 b] w fun e w' => e = .returned (.bool true) ∧ Bl w w' := by
  have t4 : a % 4294967296 = a := Int.emod_eq_of_lt n0.1 n0.2
  have t0 : (b != 0) = true := by rw [bne_iff_ne]; omega
  have t1 : ((sg a).tdiv (sg b) % 4294967296 * b + (sg a).tmod (sg b)) % 4294967296 = a := by have h := again_signed a b n0.1 n0.2; rw [Int.emod_add_emod, Int.add_emod_emod] at h; exact h
  have t2 : (a / b * b + a % b) % 4294967296 = a := by have h := again_plain a b n0.1 n0.2 hz; rw [Int.emod_add_emod] at h; exact h
  have t3 := emod_bd a b hz n0.1
  have hp := p2_bd (b % 32)
  have t5 : (b % 32 == 0) = false := by rw [beq_eq_false_iff_ne]; omega
  have t6 : (a - a / p2 (b % 32) * p2 (b % 32)) % 4294967296 < 2 ^ (b % 32).toNat % 4294967296 := fell_lt a b n0.1 n0.2
  rcases hl with ⟨hl, hne⟩ | ⟨hl, hne⟩ | ⟨hl, hl', hne⟩
  all_goals
    go_enter Try.func11, Try.ntmps11
    go_wp2_with (first | (go_at_call 39; refine (div_any _ _ _ (by omega) (by omega) (by omega) (by omega)).mono ?_; rintro e w2 ⟨rfl, hw2⟩) | (go_at_call 43; refine (rem_any _ _ _ (by omega) (by omega) (by omega) (by omega)).mono ?_; rintro e w3 ⟨rfl, hw3⟩) | (go_at_call 41; refine (divu_any _ _ _ (by omega) (by omega) (by omega) (by omega)).mono ?_; rintro e w4 ⟨rfl, hw4⟩) | (go_at_call 45; refine (remu_any _ _ _ (by omega) (by omega) (by omega) (by omega)).mono ?_; rintro e w5 ⟨rfl, hw5⟩) | (go_at_call 31; refine (mul_any _ _ _).mono ?_; rintro e w' ⟨rfl, rfl⟩) | (go_at_call 27; refine (add_any _ _ _).mono ?_; rintro e w' ⟨rfl, rfl⟩) | (go_at_call 29; refine (sub_any _ _ _).mono ?_; rintro e w' ⟨rfl, rfl⟩) | (go_at_call 17; refine (shr_any _ _ _ (by omega) (by omega)).mono ?_; rintro e w' ⟨rfl, rfl⟩) | (go_at_call 15; refine (shl_any _ _ _ (by omega) (by omega)).mono ?_; rintro e w' ⟨rfl, rfl⟩) | (go_at_call 21; refine (less_any _ _ _ (by omega) (by omega) (by omega) (by omega)).mono ?_; rintro e w' ⟨rfl, rfl⟩) | (go_at_call 14; refine (works_any _).mono ?_; rintro e w1 ⟨rfl, hb⟩))
    go_ret
    exact ⟨rfl, by repeat (first | assumption | refine Bl.trans ?_ (by assumption))⟩
theorem walk_none (a b : Int) (n0 : 0 ≤ a ∧ a < 4294967296) (n1 : 0 ≤ b ∧ b < 4294967296) (hz : 0 < b) (hn : b % 32 = 0) (hl : (sg a < sg b ∧ (a == b) = false) ∨ (sg b < sg a ∧ (a == b) = false) ∨ (sg a ≤ sg b ∧ sg b ≤ sg a ∧ (a == b) = true)) (w : World) :
    Calls Try.prog 11 #[.int .u32 a, .int .u32 b] w fun e w' => e = .returned (.bool true) ∧ Bl w w' := by
  have t4 : a % 4294967296 = a := Int.emod_eq_of_lt n0.1 n0.2
  have t0 : (b != 0) = true := by rw [bne_iff_ne]; omega
  have t1 : ((sg a).tdiv (sg b) % 4294967296 * b + (sg a).tmod (sg b)) % 4294967296 = a := by have h := again_signed a b n0.1 n0.2; rw [Int.emod_add_emod, Int.add_emod_emod] at h; exact h
  have t2 : (a / b * b + a % b) % 4294967296 = a := by have h := again_plain a b n0.1 n0.2 hz; rw [Int.emod_add_emod] at h; exact h
  have t3 := emod_bd a b hz n0.1
  have t5 : b % 32 = 0 := hn
  have t7 : p2 0 = 1 := by decide
  rcases hl with ⟨hl, hne⟩ | ⟨hl, hne⟩ | ⟨hl, hl', hne⟩
  all_goals
    go_enter Try.func11, Try.ntmps11
    go_wp2_with (first | (go_at_call 39; refine (div_any _ _ _ (by omega) (by omega) (by omega) (by omega)).mono ?_; rintro e w2 ⟨rfl, hw2⟩) | (go_at_call 43; refine (rem_any _ _ _ (by omega) (by omega) (by omega) (by omega)).mono ?_; rintro e w3 ⟨rfl, hw3⟩) | (go_at_call 41; refine (divu_any _ _ _ (by omega) (by omega) (by omega) (by omega)).mono ?_; rintro e w4 ⟨rfl, hw4⟩) | (go_at_call 45; refine (remu_any _ _ _ (by omega) (by omega) (by omega) (by omega)).mono ?_; rintro e w5 ⟨rfl, hw5⟩) | (go_at_call 31; refine (mul_any _ _ _).mono ?_; rintro e w' ⟨rfl, rfl⟩) | (go_at_call 27; refine (add_any _ _ _).mono ?_; rintro e w' ⟨rfl, rfl⟩) | (go_at_call 29; refine (sub_any _ _ _).mono ?_; rintro e w' ⟨rfl, rfl⟩) | (go_at_call 17; refine (shr_any _ _ _ (by omega) (by omega)).mono ?_; rintro e w' ⟨rfl, rfl⟩) | (go_at_call 15; refine (shl_any _ _ _ (by omega) (by omega)).mono ?_; rintro e w' ⟨rfl, rfl⟩) | (go_at_call 21; refine (less_any _ _ _ (by omega) (by omega) (by omega) (by omega)).mono ?_; rintro e w' ⟨rfl, rfl⟩) | (go_at_call 14; refine (works_any _).mono ?_; rintro e w1 ⟨rfl, hb⟩))
    go_ret
    exact ⟨rfl, by repeat (first | assumption | refine Bl.trans ?_ (by assumption))⟩
theorem walk_zero (a b : Int) (n0 : 0 ≤ a ∧ a < 4294967296) (n1 : 0 ≤ b ∧ b < 4294967296) (hz : b = 0) (hl : (sg a < sg b ∧ (a == b) = false) ∨ (sg b < sg a ∧ (a == b) = false) ∨ (sg a ≤ sg b ∧ sg b ≤ sg a ∧ (a == b) = true)) (w : World) :
    Calls Try.prog 11 #[.int .u32 a, .int .u32 b] w fun e w' => e = .returned (.bool true) ∧ Bl w w' := by
  subst hz
  have t4 : a % 4294967296 = a := Int.emod_eq_of_lt n0.1 n0.2
  have t7 : p2 0 = 1 := by decide
  rcases hl with ⟨hl, hne⟩ | ⟨hl, hne⟩ | ⟨hl, hl', hne⟩
  all_goals
    go_enter Try.func11, Try.ntmps11
    go_wp2_with (first | (go_at_call 39; refine (div_any _ _ _ (by omega) (by omega) (by omega) (by omega)).mono ?_; rintro e w2 ⟨rfl, hw2⟩) | (go_at_call 43; refine (rem_any _ _ _ (by omega) (by omega) (by omega) (by omega)).mono ?_; rintro e w3 ⟨rfl, hw3⟩) | (go_at_call 41; refine (divu_any _ _ _ (by omega) (by omega) (by omega) (by omega)).mono ?_; rintro e w4 ⟨rfl, hw4⟩) | (go_at_call 45; refine (remu_any _ _ _ (by omega) (by omega) (by omega) (by omega)).mono ?_; rintro e w5 ⟨rfl, hw5⟩) | (go_at_call 31; refine (mul_any _ _ _).mono ?_; rintro e w' ⟨rfl, rfl⟩) | (go_at_call 27; refine (add_any _ _ _).mono ?_; rintro e w' ⟨rfl, rfl⟩) | (go_at_call 29; refine (sub_any _ _ _).mono ?_; rintro e w' ⟨rfl, rfl⟩) | (go_at_call 17; refine (shr_any _ _ _ (by omega) (by omega)).mono ?_; rintro e w' ⟨rfl, rfl⟩) | (go_at_call 15; refine (shl_any _ _ _ (by omega) (by omega)).mono ?_; rintro e w' ⟨rfl, rfl⟩) | (go_at_call 21; refine (less_any _ _ _ (by omega) (by omega) (by omega) (by omega)).mono ?_; rintro e w' ⟨rfl, rfl⟩) | (go_at_call 14; refine (works_any _).mono ?_; rintro e w1 ⟨rfl, hb⟩))
    go_ret
    exact ⟨rfl, by repeat (first | assumption | refine Bl.trans ?_ (by assumption))⟩
end Go.Proofs.Ytpmiiffgcaoemaa
