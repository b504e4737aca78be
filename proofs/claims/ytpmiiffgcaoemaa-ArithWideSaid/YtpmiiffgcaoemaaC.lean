/-
  Contracts of the functions of package arith and of its reference, the second part: products' halves, quotients, what is left. Conditions: each word lies in its range.
-/
import Derived.Test.YtpmiiffgcaoemaaB
namespace Go.Proofs.Ytpmiiffgcaoemaa
open Go.RowKit Go.Lib

/-- What was there is as it was. -/
def Bl (w w' : World) : Prop := Below w.heap.size w w'
theorem Bl.refl (w : World) : Bl w w := Below.refl _ _
theorem Bl.trans {a b c : World} (h : Bl a b) (k : Bl b c) : Bl a c := Below.trans h (Below.mono k h.size)
theorem Bl.alloc (w : World) (o : Obj) : Bl w (w.alloc o) := (Below.refl _ _).alloc (Nat.le_refl _) o
theorem Bl.drewN (w : World) (n : Nat) : Bl w (w.drewN n) := ⟨rfl, rfl, rfl, Nat.le_refl _, fun _ _ => rfl⟩

theorem halves_any (x : Int) (w : World) (h0 : 0 ≤ x) (h1 : x ≤ 18446744073709551615) : Calls Try.prog 53 #[.int .u64 x] w fun e w' => e = .returned (.agg #[.int .u32 (x % 4294967296), .int .u32 (x / 4294967296)]) ∧ w.alloc (.cells #[.int .u32 (x % 4294967296), .int .u32 (x / 4294967296)] 37) = w' := by
  go_enter Try.func53, Try.ntmps53
  go_wp2
  exact bodyPost_ret (v := .agg #[.int .u32 (x % 4294967296), .int .u32 (x / 4294967296)]) (by simp [results, Try.results53, go_sem]) rfl ⟨rfl, rfl⟩
theorem index_one (x y : Int) (w : World) : (Instr.index 37 (.agg #[.int .u32 x, .int .u32 y]) (.int .i64 1)).run Try.prog w = .ok (.int .u32 y) w := by kernel_rfl
theorem wrap_bd (x : Int) : 0 ≤ IntKind.u64.wrap x ∧ IntKind.u64.wrap x ≤ 18446744073709551615 := by rw [IntKind.wrap_u64]; omega
theorem wrap_half (x : Int) : IntKind.u64.wrap x / 4294967296 = x / 4294967296 % 4294967296 := by rw [IntKind.wrap_u64]; omega
theorem mulhu_any (a b : Int) (w : World) (h0 : 0 ≤ a) (h1 : a < 4294967296) (h2 : 0 ≤ b) (h3 : b < 4294967296) : Calls Try.prog 33 #[.int .u32 a, .int .u32 b] w fun e w' => e = .returned (.int .u32 (a * b / 4294967296)) ∧ Bl w w' := by
  have hm := mul_bd a b h0 h1 h2 h3
  have i1 := index_one
  go_enter Try.func33, Try.ntmps33
  go_wp2_with (go_at_call 53; refine (halves_any _ _ (by omega) (by omega)).mono ?_; rintro e w' ⟨rfl, rfl⟩)
  go_ret
  exact ⟨rfl, Bl.alloc _ _⟩
theorem mulh_any (a b : Int) (w : World) (h0 : 0 ≤ a) (h1 : a < 4294967296) (h2 : 0 ≤ b) (h3 : b < 4294967296) : Calls Try.prog 34 #[.int .u32 a, .int .u32 b] w fun e w' => e = .returned (.int .u32 (sg a * sg b / 4294967296 % 4294967296)) ∧ Bl w w' := by
  have ha := sg_bd a h0 h1
  have hb := sg_bd b h2 h3
  have hm := mulSS_bd (sg a) (sg b) ha.1 ha.2 hb.1 hb.2
  have hw := wrap_bd (sg a * sg b)
  have i1 := index_one
  go_enter Try.func34, Try.ntmps34
  go_wp2_with (first | (go_at_call 25; refine (sign_any _ _ (by omega) (by omega)).mono ?_; rintro e w' ⟨rfl, rfl⟩) | (go_at_call 53; refine (halves_any _ _ (by omega) (by omega)).mono ?_; rintro e w' ⟨rfl, rfl⟩))
  go_ret
  exact ⟨ret_int (wrap_half _), Bl.alloc _ _⟩
theorem mulhsu_any (a b : Int) (w : World) (h0 : 0 ≤ a) (h1 : a < 4294967296) (h2 : 0 ≤ b) (h3 : b < 4294967296) : Calls Try.prog 37 #[.int .u32 a, .int .u32 b] w fun e w' => e = .returned (.int .u32 (sg a * b / 4294967296 % 4294967296)) ∧ Bl w w' := by
  have ha := sg_bd a h0 h1
  have hm := mulS_bd (sg a) b ha.1 ha.2 h2 (by omega)
  have hw := wrap_bd (sg a * b)
  have i1 := index_one
  go_enter Try.func37, Try.ntmps37
  go_wp2_with (first | (go_at_call 25; refine (sign_any _ _ (by omega) (by omega)).mono ?_; rintro e w' ⟨rfl, rfl⟩) | (go_at_call 53; refine (halves_any _ _ (by omega) (by omega)).mono ?_; rintro e w' ⟨rfl, rfl⟩))
  go_ret
  exact ⟨ret_int (wrap_half _), Bl.alloc _ _⟩

/-! Quotients. -/
theorem divided_sign (a b : Int) (w : World) (h0 : 0 ≤ a) (h1 : a < 4294967296) (h2 : 0 < b) (h3 : b < 4294967296) :
    Calls Try.prog 55 #[.int .u32 a, .int .u32 b, .func (.func 25) #[] #[]] w fun e w' => e = .returned (.tuple #[.int .u32 ((sg a).tdiv (sg b) % 4294967296), .int .u32 ((sg a).tmod (sg b) % 4294967296)]) ∧ ∃ n, w.drewN n = w' := by
  have ha := sg_bd a h0 h1
  have hb := sg_bd b (by omega) h3
  have hz : ¬ sg b = 0 := sg_zero b (by omega) h3 (by omega)
  have hq := tdivS_bd (sg a) (sg b) ha.1 ha.2
  have hr := tmodS_bd (sg a) (sg b) ha.1 ha.2
  go_enter Try.func55, Try.ntmps55
  go_wp2_with (go_at_call 25; refine (sign_any _ _ (by omega) (by omega)).mono ?_; rintro e w' ⟨rfl, rfl⟩)
  go_quiet (fail)
  go_wp2
  go_ret2
  exact ⟨rfl, _, rfl⟩
theorem divided_plain (a b : Int) (w : World) (h0 : 0 ≤ a) (h1 : a < 4294967296) (h2 : 0 < b) (h3 : b < 4294967296) :
    Calls Try.prog 55 #[.int .u32 a, .int .u32 b, .func (.func 56) #[] #[]] w fun e w' => e = .returned (.tuple #[.int .u32 (a / b), .int .u32 (a % b)]) ∧ ∃ n, w.drewN n = w' := by
  have hq := ediv_bd a b (by omega) h0
  have hr := emod_bd a b h2 h0
  go_enter Try.func55, Try.ntmps55
  go_wp2_with (go_at_call 56; refine (plain_any _ _ (by omega) (by omega)).mono ?_; rintro e w' ⟨rfl, rfl⟩)
  go_quiet (fail)
  go_wp2
  go_ret2
  exact ⟨rfl, _, rfl⟩
theorem divided_zero (a : Int) (f : Nat) (w : World) :
    Calls Try.prog 55 #[.int .u32 a, .int .u32 0, .func (.func f) #[] #[]] w fun e w' => e = .returned (.tuple #[.int .u32 4294967295, .int .u32 a]) ∧ w = w' := by
  go_enter Try.func55, Try.ntmps55
  go_wp2
  go_ret2
  exact ⟨rfl, rfl⟩

/-! Div, DivU, Rem, RemU. -/
theorem div_any (a b : Int) (w : World) (h0 : 0 ≤ a) (h1 : a < 4294967296) (h2 : 0 < b) (h3 : b < 4294967296) : Calls Try.prog 39 #[.int .u32 a, .int .u32 b] w fun e w' => e = .returned (.int .u32 ((sg a).tdiv (sg b) % 4294967296)) ∧ Bl w w' := by
  go_enter Try.func39, Try.ntmps39
  go_wp2_with (go_at_call 55; refine (divided_sign _ _ _ (by omega) (by omega) (by omega) (by omega)).mono ?_; rintro e w' ⟨rfl, n, rfl⟩)
  go_ret
  exact ⟨rfl, Bl.drewN _ _⟩
theorem divu_any (a b : Int) (w : World) (h0 : 0 ≤ a) (h1 : a < 4294967296) (h2 : 0 < b) (h3 : b < 4294967296) : Calls Try.prog 41 #[.int .u32 a, .int .u32 b] w fun e w' => e = .returned (.int .u32 (a / b)) ∧ Bl w w' := by
  go_enter Try.func41, Try.ntmps41
  go_wp2_with (go_at_call 55; refine (divided_plain _ _ _ (by omega) (by omega) (by omega) (by omega)).mono ?_; rintro e w' ⟨rfl, n, rfl⟩)
  go_ret
  exact ⟨rfl, Bl.drewN _ _⟩
theorem rem_any (a b : Int) (w : World) (h0 : 0 ≤ a) (h1 : a < 4294967296) (h2 : 0 < b) (h3 : b < 4294967296) : Calls Try.prog 43 #[.int .u32 a, .int .u32 b] w fun e w' => e = .returned (.int .u32 ((sg a).tmod (sg b) % 4294967296)) ∧ Bl w w' := by
  go_enter Try.func43, Try.ntmps43
  go_wp2_with (go_at_call 55; refine (divided_sign _ _ _ (by omega) (by omega) (by omega) (by omega)).mono ?_; rintro e w' ⟨rfl, n, rfl⟩)
  go_ret
  exact ⟨rfl, Bl.drewN _ _⟩
theorem remu_any (a b : Int) (w : World) (h0 : 0 ≤ a) (h1 : a < 4294967296) (h2 : 0 < b) (h3 : b < 4294967296) : Calls Try.prog 45 #[.int .u32 a, .int .u32 b] w fun e w' => e = .returned (.int .u32 (a % b)) ∧ Bl w w' := by
  go_enter Try.func45, Try.ntmps45
  go_wp2_with (go_at_call 55; refine (divided_plain _ _ _ (by omega) (by omega) (by omega) (by omega)).mono ?_; rintro e w' ⟨rfl, n, rfl⟩)
  go_ret
  exact ⟨rfl, Bl.drewN _ _⟩
theorem div_zero (a : Int) (w : World) : Calls Try.prog 39 #[.int .u32 a, .int .u32 0] w fun e w' => e = .returned (.int .u32 4294967295) ∧ Bl w w' := by
  go_enter Try.func39, Try.ntmps39
  go_wp2_with (go_at_call 55; refine (divided_zero _ _ _).mono ?_; rintro e w' ⟨rfl, rfl⟩)
  go_ret
  exact ⟨rfl, Bl.refl _⟩
theorem divu_zero (a : Int) (w : World) : Calls Try.prog 41 #[.int .u32 a, .int .u32 0] w fun e w' => e = .returned (.int .u32 4294967295) ∧ Bl w w' := by
  go_enter Try.func41, Try.ntmps41
  go_wp2_with (go_at_call 55; refine (divided_zero _ _ _).mono ?_; rintro e w' ⟨rfl, rfl⟩)
  go_ret
  exact ⟨rfl, Bl.refl _⟩
theorem rem_zero (a : Int) (w : World) : Calls Try.prog 43 #[.int .u32 a, .int .u32 0] w fun e w' => e = .returned (.int .u32 a) ∧ Bl w w' := by
  go_enter Try.func43, Try.ntmps43
  go_wp2_with (go_at_call 55; refine (divided_zero _ _ _).mono ?_; rintro e w' ⟨rfl, rfl⟩)
  go_ret
  exact ⟨rfl, Bl.refl _⟩
theorem remu_zero (a : Int) (w : World) : Calls Try.prog 45 #[.int .u32 a, .int .u32 0] w fun e w' => e = .returned (.int .u32 a) ∧ Bl w w' := by
  go_enter Try.func45, Try.ntmps45
  go_wp2_with (go_at_call 55; refine (divided_zero _ _ _).mono ?_; rintro e w' ⟨rfl, rfl⟩)
  go_ret
  exact ⟨rfl, Bl.refl _⟩

/-! What every law of this layer asks besides: some answers that are known. -/
theorem known1 (w : World) : Calls Try.prog 27 #[.int .u32 4294967295, .int .u32 2] w fun e w' => e = .returned (.int .u32 1) ∧ w = w' := (add_any 4294967295 2 w).mono fun _ _ ⟨h1, h2⟩ => ⟨h1, h2⟩
theorem known2 (w : World) : Calls Try.prog 39 #[.int .u32 2147483648, .int .u32 4294967295] w fun e w' => e = .returned (.int .u32 2147483648) ∧ Bl w w' := (div_any 2147483648 4294967295 w (by omega) (by omega) (by omega) (by omega)).mono fun _ _ ⟨h1, h2⟩ => ⟨h1.trans (ret_int (by decide)), h2⟩
theorem known3 (w : World) : Calls Try.prog 19 #[.int .u32 2147483648, .int .u32 33] w fun e w' => e = .returned (.int .u32 3221225472) ∧ w = w' := (sar_any 2147483648 33 w (by omega) (by omega) (by omega) (by omega)).mono fun _ _ ⟨h1, h2⟩ => ⟨h1.trans (ret_int (by decide)), h2⟩
theorem known4 (w : World) : Calls Try.prog 12 #[.int .u32 255, .int .i64 8] w fun e w' => e = .returned (.int .u32 4294967295) ∧ w = w' := (extend_in 255 8 w (by omega) (by omega)).mono fun _ _ ⟨h1, h2⟩ => ⟨h1.trans (ret_int (by decide)), h2⟩
theorem known5 (w : World) : Calls Try.prog 21 #[.int .u32 4294967295, .int .u32 0] w fun e w' => e = .returned (.bool true) ∧ w = w' := (less_any 4294967295 0 w (by omega) (by omega) (by omega) (by omega)).mono fun _ _ ⟨h1, h2⟩ => ⟨h1.trans (by rw [show decide (sg 4294967295 < sg 0) = true from by decide]), h2⟩
theorem works_any (w : World) : Calls Try.prog 14 #[] w fun e w' => e = .returned (.bool true) ∧ Bl w w' := by
  go_enter Try.func14, Try.ntmps14
  go_wp2_with (first | (go_at_call 27; refine (known1 _).mono ?_; rintro e w' ⟨rfl, rfl⟩) | (go_at_call 39; refine (known2 _).mono ?_; rintro e w1 ⟨rfl, hb⟩) | (go_at_call 19; refine (known3 _).mono ?_; rintro e w' ⟨rfl, rfl⟩) | (go_at_call 12; refine (known4 _).mono ?_; rintro e w' ⟨rfl, rfl⟩) | (go_at_call 21; refine (known5 _).mono ?_; rintro e w' ⟨rfl, rfl⟩))
  go_ret
  exact ⟨rfl, by assumption⟩
end Go.Proofs.Ytpmiiffgcaoemaa
