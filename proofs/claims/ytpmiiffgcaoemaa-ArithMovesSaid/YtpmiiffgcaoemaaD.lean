/-
  Contracts of the reference of layer 1: each function of it computes what the function of that name in package arith computes. Conditions: each word lies in its range.
-/
import Derived.Test.YtpmiiffgcaoemaaC
namespace Go.Proofs.Ytpmiiffgcaoemaa
open Go.RowKit Go.Lib

theorem radd_any (a b : Int) (w : World) (h0 : 0 ≤ a) (h1 : a < 4294967296) (h2 : 0 ≤ b) (h3 : b < 4294967296) : Calls Try.prog 28 #[.int .u32 a, .int .u32 b] w fun e w' => e = .returned (.int .u32 ((a + b) % 4294967296)) ∧ w = w' := by
  go_enter Try.func28, Try.ntmps28
  go_wp2_with (go_at_call 48; refine (word_any _ _ (by omega) (by omega)).mono ?_; rintro e w' ⟨rfl, rfl⟩)
  go_ret
  exact ⟨rfl, rfl⟩
theorem rsub_any (a b : Int) (w : World) (h0 : 0 ≤ a) (h1 : a < 4294967296) (h2 : 0 ≤ b) (h3 : b < 4294967296) : Calls Try.prog 30 #[.int .u32 a, .int .u32 b] w fun e w' => e = .returned (.int .u32 ((a - b) % 4294967296)) ∧ w = w' := by
  go_enter Try.func30, Try.ntmps30
  go_wp2_with (go_at_call 48; refine (word_any _ _ (by omega) (by omega)).mono ?_; rintro e w' ⟨rfl, rfl⟩)
  go_ret
  exact ⟨rfl, rfl⟩
theorem rmul_any (a b : Int) (w : World) (h0 : 0 ≤ a) (h1 : a < 4294967296) (h2 : 0 ≤ b) (h3 : b < 4294967296) : Calls Try.prog 32 #[.int .u32 a, .int .u32 b] w fun e w' => e = .returned (.int .u32 (a * b % 4294967296)) ∧ w = w' := by
  have m1 := mul_le_of a (b % 65536) 4294967295 65535 h0 (by omega) (by omega) (by omega)
  have m2 := mul_le_of a (b / 65536) 4294967295 65535 h0 (by omega) (by omega) (by omega)
  go_enter Try.func32, Try.ntmps32
  go_wp2_with (go_at_call 48; refine (word_any _ _ (by omega) (by omega)).mono ?_; rintro e w' ⟨rfl, rfl⟩)
  go_ret
  exact ⟨ret_int (by rw [← mul_halves a b]; omega), rfl⟩
theorem rmulh_any (a b : Int) (w : World) (h0 : 0 ≤ a) (h1 : a < 4294967296) (h2 : 0 ≤ b) (h3 : b < 4294967296) : Calls Try.prog 35 #[.int .u32 a, .int .u32 b] w fun e w' => e = .returned (.int .u32 (sg a * sg b / 4294967296 % 4294967296)) ∧ w = w' := by
  have ha := sg_bd a h0 h1
  have hb := sg_bd b h2 h3
  have hm := mulSS_bd (sg a) (sg b) ha.1 ha.2 hb.1 hb.2
  go_enter Try.func35, Try.ntmps35
  go_wp2_with (first | (go_at_call 26; refine (rsign_any _ _ (by omega) (by omega)).mono ?_; rintro e w' ⟨rfl, rfl⟩) | (go_at_call 54; refine (rdown_any _ _ (by omega) (by omega)).mono ?_; rintro e w' ⟨rfl, rfl⟩) | (go_at_call 48; refine (word_any _ _ (by omega) (by omega)).mono ?_; rintro e w' ⟨rfl, rfl⟩))
  go_ret
  exact ⟨rfl, rfl⟩
theorem rmulhsu_any (a b : Int) (w : World) (h0 : 0 ≤ a) (h1 : a < 4294967296) (h2 : 0 ≤ b) (h3 : b < 4294967296) : Calls Try.prog 38 #[.int .u32 a, .int .u32 b] w fun e w' => e = .returned (.int .u32 (sg a * b / 4294967296 % 4294967296)) ∧ w = w' := by
  have ha := sg_bd a h0 h1
  have hm := mulS_bd (sg a) b ha.1 ha.2 h2 (by omega)
  go_enter Try.func38, Try.ntmps38
  go_wp2_with (first | (go_at_call 26; refine (rsign_any _ _ (by omega) (by omega)).mono ?_; rintro e w' ⟨rfl, rfl⟩) | (go_at_call 54; refine (rdown_any _ _ (by omega) (by omega)).mono ?_; rintro e w' ⟨rfl, rfl⟩) | (go_at_call 48; refine (word_any _ _ (by omega) (by omega)).mono ?_; rintro e w' ⟨rfl, rfl⟩))
  go_ret
  exact ⟨rfl, rfl⟩
theorem rmulhu_any (a b : Int) (w : World) (h0 : 0 ≤ a) (h1 : a < 4294967296) (h2 : 0 ≤ b) (h3 : b < 4294967296) : Calls Try.prog 36 #[.int .u32 a, .int .u32 b] w fun e w' => e = .returned (.int .u32 (a * b / 4294967296)) ∧ w = w' := by
  have m1 := mul_le_of (a % 65536) (b % 65536) 65535 65535 (by omega) (by omega) (by omega) (by omega)
  have m2 := mul_le_of (a / 65536) (b % 65536) 65535 65535 (by omega) (by omega) (by omega) (by omega)
  have m3 := mul_le_of (a % 65536) (b / 65536) 65535 65535 (by omega) (by omega) (by omega) (by omega)
  have m4 := mul_le_of (a / 65536) (b / 65536) 65535 65535 (by omega) (by omega) (by omega) (by omega)
  go_enter Try.func36, Try.ntmps36
  go_wp2_with (go_at_call 48; refine (word_any _ _ (by omega) (by omega)).mono ?_; rintro e w' ⟨rfl, rfl⟩)
  go_ret
  exact ⟨ret_int (mulhu_halves a b h0 h1 h2 h3), rfl⟩
theorem rdiv_any (a b : Int) (w : World) (h0 : 0 ≤ a) (h1 : a < 4294967296) (h2 : 0 < b) (h3 : b < 4294967296) : Calls Try.prog 40 #[.int .u32 a, .int .u32 b] w fun e w' => e = .returned (.int .u32 ((sg a).tdiv (sg b) % 4294967296)) ∧ w = w' := by
  have ha := sg_bd a h0 h1
  have hz : ¬ sg b = 0 := sg_zero b (by omega) h3 (by omega)
  have hq := tdivS_bd (sg a) (sg b) ha.1 ha.2
  go_enter Try.func40, Try.ntmps40
  go_wp2_with (first | (go_at_call 26; refine (rsign_any _ _ (by omega) (by omega)).mono ?_; rintro e w' ⟨rfl, rfl⟩) | (go_at_call 48; refine (word_any _ _ (by omega) (by omega)).mono ?_; rintro e w' ⟨rfl, rfl⟩))
  go_ret
  exact ⟨rfl, rfl⟩
theorem rrem_any (a b : Int) (w : World) (h0 : 0 ≤ a) (h1 : a < 4294967296) (h2 : 0 < b) (h3 : b < 4294967296) : Calls Try.prog 44 #[.int .u32 a, .int .u32 b] w fun e w' => e = .returned (.int .u32 ((sg a).tmod (sg b) % 4294967296)) ∧ w = w' := by
  have ha := sg_bd a h0 h1
  have hz : ¬ sg b = 0 := sg_zero b (by omega) h3 (by omega)
  have hr := tmodS_bd (sg a) (sg b) ha.1 ha.2
  go_enter Try.func44, Try.ntmps44
  go_wp2_with (first | (go_at_call 26; refine (rsign_any _ _ (by omega) (by omega)).mono ?_; rintro e w' ⟨rfl, rfl⟩) | (go_at_call 48; refine (word_any _ _ (by omega) (by omega)).mono ?_; rintro e w' ⟨rfl, rfl⟩))
  go_ret
  exact ⟨rfl, rfl⟩
theorem rdivu_any (a b : Int) (w : World) (h0 : 0 ≤ a) (h1 : a < 4294967296) (h2 : 0 < b) (h3 : b < 4294967296) : Calls Try.prog 42 #[.int .u32 a, .int .u32 b] w fun e w' => e = .returned (.int .u32 (a / b)) ∧ w = w' := by
  have hq := ediv_bd a b (by omega) h0
  go_enter Try.func42, Try.ntmps42
  go_wp2
  go_ret
  exact ⟨rfl, rfl⟩
theorem rremu_any (a b : Int) (w : World) (h0 : 0 ≤ a) (h1 : a < 4294967296) (h2 : 0 < b) (h3 : b < 4294967296) : Calls Try.prog 46 #[.int .u32 a, .int .u32 b] w fun e w' => e = .returned (.int .u32 (a % b)) ∧ w = w' := by
  have hr := emod_bd a b h2 h0
  go_enter Try.func46, Try.ntmps46
  go_wp2
  go_ret
  exact ⟨rfl, rfl⟩
theorem rdiv_zero (a : Int) (w : World) : Calls Try.prog 40 #[.int .u32 a, .int .u32 0] w fun e w' => e = .returned (.int .u32 4294967295) ∧ w = w' := by
  go_enter Try.func40, Try.ntmps40
  go_wp2
  go_ret
  exact ⟨rfl, rfl⟩
theorem rrem_zero (a : Int) (w : World) : Calls Try.prog 44 #[.int .u32 a, .int .u32 0] w fun e w' => e = .returned (.int .u32 a) ∧ w = w' := by
  go_enter Try.func44, Try.ntmps44
  go_wp2
  go_ret
  exact ⟨rfl, rfl⟩
theorem rdivu_zero (a : Int) (w : World) : Calls Try.prog 42 #[.int .u32 a, .int .u32 0] w fun e w' => e = .returned (.int .u32 4294967295) ∧ w = w' := by
  go_enter Try.func42, Try.ntmps42
  go_wp2
  go_ret
  exact ⟨rfl, rfl⟩
theorem rremu_zero (a : Int) (w : World) : Calls Try.prog 46 #[.int .u32 a, .int .u32 0] w fun e w' => e = .returned (.int .u32 a) ∧ w = w' := by
  go_enter Try.func46, Try.ntmps46
  go_wp2
  go_ret
  exact ⟨rfl, rfl⟩
theorem rshr_any (a n : Int) (w : World) (h0 : 0 ≤ a) (h1 : a < 4294967296) (h2 : 0 ≤ n) (h3 : n < 4294967296) : Calls Try.prog 18 #[.int .u32 a, .int .u32 n] w fun e w' => e = .returned (.int .u32 (a / p2 n)) ∧ w = w' := by
  have hp := p2_bd n
  have hq := ediv_bd a (p2 n) hp.1 h0
  go_enter Try.func18, Try.ntmps18
  go_wp2_with (first | (go_at_call 47; refine (power_any _ _ (by omega) (by omega)).mono ?_; rintro e w' ⟨rfl, rfl⟩) | (go_at_call 48; refine (word_any _ _ (by omega) (by omega)).mono ?_; rintro e w' ⟨rfl, rfl⟩))
  go_ret
  exact ⟨ret_int (by omega), rfl⟩
theorem rsar_any (a n : Int) (w : World) (h0 : 0 ≤ a) (h1 : a < 4294967296) (h2 : 0 ≤ n) (h3 : n < 4294967296) : Calls Try.prog 20 #[.int .u32 a, .int .u32 n] w fun e w' => e = .returned (.int .u32 (sg a / p2 n % 4294967296)) ∧ w = w' := by
  have hs := sg_bd a h0 h1
  have hp := p2_bd n
  by_cases h : 0 ≤ sg a
  · have hq := ediv_bd (sg a) (p2 n) hp.1 h
    go_enter Try.func20, Try.ntmps20
    go_wp2_with (first | (go_at_call 26; refine (rsign_any _ _ (by omega) (by omega)).mono ?_; rintro e w' ⟨rfl, rfl⟩) | (go_at_call 47; refine (power_any _ _ (by omega) (by omega)).mono ?_; rintro e w' ⟨rfl, rfl⟩) | (go_at_call 48; refine (word_any _ _ (by omega) (by omega)).mono ?_; rintro e w' ⟨rfl, rfl⟩))
    go_ret
    exact ⟨rfl, rfl⟩
  · have b1 := tdiv_mul_bd (sg a) (p2 n) hp.1 (by omega)
    have b2 := tdiv_bd (sg a) (p2 n) hp.1 (by omega)
    by_cases hq : (sg a).tdiv (p2 n) * p2 n = sg a
    · have e := down_neg_eq (sg a) (p2 n) hp.1 (by omega) hq
      have hq' : ((sg a).tdiv (p2 n) * p2 n != sg a) = false := by simp [hq]
      rw [← e]; clear e hq
      go_enter Try.func20, Try.ntmps20
      go_wp2_with (first | (go_at_call 26; refine (rsign_any _ _ (by omega) (by omega)).mono ?_; rintro e w' ⟨rfl, rfl⟩) | (go_at_call 47; refine (power_any _ _ (by omega) (by omega)).mono ?_; rintro e w' ⟨rfl, rfl⟩) | (go_at_call 48; refine (word_any _ _ (by omega) (by omega)).mono ?_; rintro e w' ⟨rfl, rfl⟩))
      go_ret
      exact ⟨rfl, rfl⟩
    · have e := down_neg_ne (sg a) (p2 n) hp.1 (by omega) hq
      have hq' : ((sg a).tdiv (p2 n) * p2 n != sg a) = true := by simp [hq]
      rw [← e]; clear e hq
      go_enter Try.func20, Try.ntmps20
      go_wp2_with (first | (go_at_call 26; refine (rsign_any _ _ (by omega) (by omega)).mono ?_; rintro e w' ⟨rfl, rfl⟩) | (go_at_call 47; refine (power_any _ _ (by omega) (by omega)).mono ?_; rintro e w' ⟨rfl, rfl⟩) | (go_at_call 48; refine (word_any _ _ (by omega) (by omega)).mono ?_; rintro e w' ⟨rfl, rfl⟩))
      go_ret
      exact ⟨rfl, rfl⟩
theorem rless_any (a b : Int) (w : World) (h0 : 0 ≤ a) (h1 : a < 4294967296) (h2 : 0 ≤ b) (h3 : b < 4294967296) : Calls Try.prog 22 #[.int .u32 a, .int .u32 b] w fun e w' => e = .returned (.bool (decide (sg a < sg b))) ∧ w = w' := by
  go_enter Try.func22, Try.ntmps22
  go_wp2_with (go_at_call 26; refine (rsign_any _ _ (by omega) (by omega)).mono ?_; rintro e w' ⟨rfl, rfl⟩)
  go_ret
  exact ⟨rfl, rfl⟩
theorem rlessu_any (a b : Int) (w : World) : Calls Try.prog 24 #[.int .u32 a, .int .u32 b] w fun e w' => e = .returned (.bool (decide (a < b))) ∧ w = w' := by
  go_enter Try.func24, Try.ntmps24
  go_wp2
  go_ret
  exact ⟨rfl, rfl⟩
theorem rextend_out (n b : Int) (w : World) (hb : b < 1 ∨ 32 ≤ b) : Calls Try.prog 13 #[.int .u32 n, .int .i64 b] w fun e w' => e = .returned (.int .u32 n) ∧ w = w' := by
  rcases hb with hb | hb
  all_goals
    go_enter Try.func13, Try.ntmps13
    go_wp2
    go_ret
    exact ⟨rfl, rfl⟩
theorem rextend_in (n b : Int) (w : World) (h0 : 0 ≤ n) (h1 : n < 4294967296) (hb : 1 ≤ b) (hb' : b < 32) : Calls Try.prog 13 #[.int .u32 n, .int .i64 b] w fun e w' => e = .returned (.int .u32 (extV n (p2 b))) ∧ w = w' := by
  have hp := p2_bd b
  have hr := emod_bd n (p2 b) (by omega) h0
  by_cases h : p2 b / 2 ≤ n % p2 b
  · have e : extV n (p2 b) = (n % p2 b - p2 b) % 4294967296 := by unfold extV; rw [if_pos h]
    rw [e]; clear e
    go_enter Try.func13, Try.ntmps13
    go_wp2_with (first | (go_at_call 47; refine (power_any _ _ (by omega) (by omega)).mono ?_; rintro e w' ⟨rfl, rfl⟩) | (go_at_call 48; refine (word_any _ _ (by omega) (by omega)).mono ?_; rintro e w' ⟨rfl, rfl⟩))
    go_ret
    exact ⟨rfl, rfl⟩
  · have e : extV n (p2 b) = (n % p2 b) % 4294967296 := by unfold extV; rw [if_neg h]
    rw [e]; clear e
    go_enter Try.func13, Try.ntmps13
    go_wp2_with (first | (go_at_call 47; refine (power_any _ _ (by omega) (by omega)).mono ?_; rintro e w' ⟨rfl, rfl⟩) | (go_at_call 48; refine (word_any _ _ (by omega) (by omega)).mono ?_; rintro e w' ⟨rfl, rfl⟩))
    go_ret
    exact ⟨rfl, rfl⟩

/-! For the laws. -/
theorem wf_u32 {a : Int} (h : (Lit.int .u32 a).wf = true) : 0 ≤ a ∧ a < 4294967296 := by
  have hmin : IntKind.u32.min = 0 := rfl
  have hmax : IntKind.u32.max = 4294967295 := rfl
  simp only [Lit.wf, Bool.and_eq_true, decide_eq_true_eq] at h
  omega
theorem extend_out' (n b : Int) (w : World) (h0 : 0 ≤ n) (h1 : n < 4294967296) (hb : b < 1 ∨ 32 ≤ b) :
    Calls Try.prog 12 #[.int .u32 n, .int .i64 b] w fun e w' => e = .returned (.int .u32 n) ∧ w = w' := by
  by_cases h : b = 32
  · subst h
    exact (extend_in n 32 w (by omega) (by omega)).mono fun e w' ⟨he, hw⟩ => ⟨he.trans (ret_int (ext_whole n h0 h1)), hw⟩
  · exact extend_out n b w h0 h1 (by omega)
theorem ext_same' (n b : Int) (hb : 1 ≤ b) (hb' : b < 32) : sg (n * p2 (32 - b) % 4294967296) / p2 (32 - b) % 4294967296 = extV n (p2 b) := by
  have hs := ext_same n b.toNat (by omega) (by omega)
  have e1 : ((b.toNat : Nat) : Int) = b := by omega
  have e2 : pk b.toNat = p2 b := by unfold p2; rw [Int.emod_eq_of_lt (by omega) (by omega)]
  rw [e1, e2] at hs
  exact hs
theorem extend_in' (n b : Int) (w : World) (hb : 1 ≤ b) (hb' : b < 32) :
    Calls Try.prog 12 #[.int .u32 n, .int .i64 b] w fun e w' => e = .returned (.int .u32 (extV n (p2 b))) ∧ w = w' :=
  (extend_in n b w hb (by omega)).mono fun _ _ ⟨he, hw⟩ => ⟨he.trans (ret_int (ext_same' n b hb hb')), hw⟩
theorem wide_eq (a b : Int) (h0 : 0 ≤ a) (h1 : a < 4294967296) (h2 : 0 ≤ b) (h3 : b < 4294967296) :
    (IntKind.u64.wrap (a * b) == IntKind.u64.wrap (IntKind.u64.wrap (IntKind.u64.wrap (a * b / 4294967296) * 4294967296) + a * b % 4294967296)) = true := by
  have hm := mul_bd a b h0 h1 h2 h3
  simp only [IntKind.wrap_u64, beq_iff_eq]
  omega
theorem p2_mod (b : Int) : p2 (b % 32) = p2 b := by unfold p2; rw [Int.emod_emod]
theorem shl_one (b : Int) : pk (b % 32).toNat % 4294967296 = p2 b := by
  have h := p2_bd b
  show p2 b % 4294967296 = p2 b
  omega
end Go.Proofs.Ytpmiiffgcaoemaa
