/-
  Plain facts on whole numbers for the laws of layer 1: signs, powers of two, quotients, halves of products. No Go in sight. No condition beyond those that each lemma names.
-/
import Derived.RowKit
import Derived.Laws.BitsAllLaws
namespace Go.Proofs.Ytpmiiffgcaoemaa
open Go.RowKit

/-- The number with a sign that a word is. -/
def sg (a : Int) : Int := if a < 2147483648 then a else a - 4294967296

theorem sg_bd (a : Int) (h0 : 0 ≤ a) (h1 : a < 4294967296) : -2147483648 ≤ sg a ∧ sg a ≤ 2147483647 := by unfold sg; split <;> omega
theorem wrap32_sg (a : Int) (h0 : 0 ≤ a) (h1 : a < 4294967296) : wrap32 a = sg a := by unfold sg wrap32; split <;> omega
theorem sg_mod (a : Int) (h0 : 0 ≤ a) (h1 : a < 4294967296) : sg a % 4294967296 = a := by unfold sg; split <;> omega
theorem sg_zero (a : Int) (h0 : 0 ≤ a) (h1 : a < 4294967296) (h : a ≠ 0) : sg a ≠ 0 := by unfold sg; split <;> omega

/-- Powers of two. -/
def pk (k : Nat) : Int := 2 ^ k
theorem pk_zero : pk 0 = 1 := rfl
theorem pk_succ (k : Nat) : pk (k + 1) = pk k * 2 := by unfold pk; rw [Int.pow_succ]
theorem pk_pos (k : Nat) : 1 ≤ pk k := by
  induction k with
  | zero => rw [pk_zero]; omega
  | succ k ih => rw [pk_succ]; omega
theorem pk_mono (k d : Nat) : pk k ≤ pk (k + d) := by
  induction d with
  | zero => exact Int.le_refl _
  | succ d ih => rw [← Nat.add_assoc, pk_succ]; have := pk_pos (k + d); omega
theorem pk_31 : pk 31 = 2147483648 := by decide
theorem pk_le (k : Nat) (h : k ≤ 31) : pk k ≤ 2147483648 := by
  obtain ⟨d, hd⟩ : ∃ d, k + d = 31 := ⟨31 - k, by omega⟩
  have := pk_mono k d
  rw [hd, pk_31] at this
  exact this

/-- 2 to the power of a number modulo 32. -/
def p2 (n : Int) : Int := pk (n % 32).toNat
theorem p2_bd (n : Int) : 1 ≤ p2 n ∧ p2 n ≤ 2147483648 := ⟨pk_pos _, pk_le _ (by omega)⟩

theorem and31 (b : Int) (h0 : 0 ≤ b) (h1 : b < 4294967296) : bits .and .u32 b 31 = b % 32 := by
  have := u32_and b 31 h0 h1 (by omega) (by omega)
  rw [this]
  have h2 : (31 : Int).toNat = 31 := rfl
  rw [h2, nat_mask5]; omega

/-- A quotient that is cut towards nought, one less where something was cut off below nought, is the one that is rounded down. -/
theorem tdiv_neg (x p : Int) (_hp : 1 ≤ p) (hx : x < 0) : x.tdiv p = -((-x) / p) := by
  have h : x = -(-x) := by omega
  rw [h, Int.neg_tdiv, Int.tdiv_eq_ediv_of_nonneg (by omega), Int.neg_neg]
theorem floor_of (x p d : Int) (hp : 1 ≤ p) (h0 : d * p ≤ x) (h1 : x < d * p + p) : x / p = d := by
  have e : x = (x - d * p) + p * d := by rw [Int.mul_comm p d]; omega
  rw [e, Int.add_mul_ediv_left _ _ (by omega), Int.ediv_eq_zero_of_lt (by omega) (by omega)]
  omega
theorem div_bd (x p : Int) (hp : 1 ≤ p) : x / p * p ≤ x ∧ x < x / p * p + p := by
  have h := Int.mul_ediv_add_emod x p
  have h0 := Int.emod_nonneg x (show p ≠ 0 by omega)
  have h1 := Int.emod_lt_of_pos x (show 0 < p by omega)
  rw [Int.mul_comm] at h
  omega
theorem down_neg_eq (x p : Int) (hp : 1 ≤ p) (_hx : x < 0) (h : x.tdiv p * p = x) : x.tdiv p = x / p := by
  exact (floor_of x p (x.tdiv p) hp (by omega) (by omega)).symm
theorem down_neg_ne (x p : Int) (hp : 1 ≤ p) (hx : x < 0) (h : x.tdiv p * p ≠ x) : x.tdiv p - 1 = x / p := by
  rw [tdiv_neg x p hp hx] at *
  have hb := div_bd (-x) p hp
  rw [Int.neg_mul] at h
  refine (floor_of x p _ hp ?_ ?_).symm
  · rw [Int.sub_mul, Int.neg_mul]; omega
  · rw [Int.sub_mul, Int.neg_mul]; omega
theorem tdiv_mul_bd (x p : Int) (hp : 1 ≤ p) (hx : x < 0) : x ≤ x.tdiv p * p ∧ x.tdiv p * p ≤ 0 := by
  rw [tdiv_neg x p hp hx, Int.neg_mul]
  have hb := div_bd (-x) p hp
  have h0 : 0 ≤ (-x) / p := Int.ediv_nonneg (by omega) (by omega)
  have h1 : 0 ≤ (-x) / p * p := Int.mul_nonneg h0 (by omega)
  omega
theorem tdiv_bd (x p : Int) (hp : 1 ≤ p) (hx : x < 0) : x ≤ x.tdiv p ∧ x.tdiv p ≤ 0 := by
  rw [tdiv_neg x p hp hx]
  have h0 : 0 ≤ (-x) / p := Int.ediv_nonneg (by omega) (by omega)
  have h1 : (-x) / p ≤ -x := Int.ediv_le_self _ (by omega)
  omega
theorem ediv_bd (x p : Int) (hp : 1 ≤ p) (hx : 0 ≤ x) : 0 ≤ x / p ∧ x / p ≤ x := ⟨Int.ediv_nonneg hx (by omega), Int.ediv_le_self _ hx⟩

/-! Products. -/
theorem mod_twice (x : Int) : x % 4294967296 * 2 % 4294967296 = x * 2 % 4294967296 := by omega
theorem mul_bd (a b : Int) (h0 : 0 ≤ a) (h1 : a < 4294967296) (h2 : 0 ≤ b) (h3 : b < 4294967296) : 0 ≤ a * b ∧ a * b ≤ 18446744065119617025 :=
  ⟨Int.mul_nonneg h0 h2, Int.le_trans (Int.mul_le_mul (show a ≤ 4294967295 by omega) (show b ≤ 4294967295 by omega) h2 (by omega)) (by omega)⟩
theorem mul_le_of (a b A B : Int) (h0 : 0 ≤ a) (h1 : a ≤ A) (h2 : 0 ≤ b) (h3 : b ≤ B) : 0 ≤ a * b ∧ a * b ≤ A * B :=
  ⟨Int.mul_nonneg h0 h2, Int.mul_le_mul h1 h3 h2 (by omega)⟩
/-- A signed number times one that is not below nought. -/
theorem mulS_bd (x b : Int) (h0 : -2147483648 ≤ x) (h1 : x ≤ 2147483647) (h2 : 0 ≤ b) (h3 : b ≤ 4294967295) : -9223372034707292160 ≤ x * b ∧ x * b ≤ 9223372030412324865 := by
  have a1 := Int.mul_le_mul_of_nonneg_right h0 h2
  have a2 := Int.mul_le_mul_of_nonneg_right h1 h2
  omega
/-- Two signed numbers. -/
theorem mulSS_bd (x y : Int) (h0 : -2147483648 ≤ x) (h1 : x ≤ 2147483647) (h2 : -2147483648 ≤ y) (h3 : y ≤ 2147483647) : -4611686018427387904 ≤ x * y ∧ x * y ≤ 4611686018427387904 := by
  by_cases h : 0 ≤ y
  · have := mulS_bd x y h0 h1 h (by omega)
    have a1 := Int.mul_le_mul_of_nonneg_right h0 h
    have a2 := Int.mul_le_mul_of_nonneg_right h1 h
    omega
  · have hy : 0 ≤ -y := by omega
    have a1 := Int.mul_le_mul_of_nonneg_right h0 hy
    have a2 := Int.mul_le_mul_of_nonneg_right h1 hy
    rw [Int.mul_neg x y] at a1 a2
    omega
/-! Quotients with signs. -/
theorem tdivS_bd (x y : Int) (h0 : -2147483648 ≤ x) (h1 : x ≤ 2147483647) : -2147483648 ≤ x.tdiv y ∧ x.tdiv y ≤ 2147483648 := by
  have h := Int.natAbs_tdiv x y
  have h2 : x.natAbs.div y.natAbs ≤ x.natAbs := Nat.div_le_self _ _
  omega
theorem tmodS_bd (x y : Int) (h0 : -2147483648 ≤ x) (h1 : x ≤ 2147483647) : -2147483648 ≤ x.tmod y ∧ x.tmod y ≤ 2147483648 := by
  have h := Int.natAbs_tmod x y
  have h2 : x.natAbs % y.natAbs ≤ x.natAbs := Nat.mod_le _ _
  omega
theorem emod_bd (a b : Int) (h : 0 < b) (h0 : 0 ≤ a) : 0 ≤ a % b ∧ a % b < b ∧ a % b ≤ a := by
  refine ⟨Int.emod_nonneg _ (by omega), Int.emod_lt_of_pos _ h, ?_⟩
  have h1 := Int.mul_ediv_add_emod a b
  have h2 := Int.mul_nonneg (show 0 ≤ b by omega) (Int.ediv_nonneg h0 (show 0 ≤ b by omega))
  omega

/-! The product by halves. -/
theorem mul_halves (a b : Int) : (a * (b % 65536) + a * (b / 65536) % 4294967296 % 65536 * 65536) % 4294967296 = a * b % 4294967296 := by
  have e : a * b = a * (b % 65536) + a * (b / 65536) * 65536 := by
    have h : b = b % 65536 + b / 65536 * 65536 := by omega
    have h2 : a * b = a * (b % 65536 + b / 65536 * 65536) := by rw [← h]
    rw [h2, Int.mul_add, Int.mul_assoc]
  rw [e]
  generalize a * (b / 65536) = t
  omega
theorem mulhu_halves (a b : Int) (h0 : 0 ≤ a) (h1 : a < 4294967296) (h2 : 0 ≤ b) (h3 : b < 4294967296) :
    (a / 65536 * (b / 65536) + (a / 65536 * (b % 65536) + a % 65536 * (b / 65536) + a % 65536 * (b % 65536) / 65536) / 65536) % 4294967296 = a * b / 4294967296 := by
  have hm := mul_bd a b h0 h1 h2 h3
  have e : a * b = a / 65536 * (b / 65536) * 4294967296 + (a / 65536 * (b % 65536) + a % 65536 * (b / 65536)) * 65536 + a % 65536 * (b % 65536) := by
    have ha : a = a / 65536 * 65536 + a % 65536 := by omega
    have hb : b = b / 65536 * 65536 + b % 65536 := by omega
    have h2 : a * b = (a / 65536 * 65536 + a % 65536) * (b / 65536 * 65536 + b % 65536) := by rw [← ha, ← hb]
    rw [h2]
    generalize a / 65536 = x
    generalize a % 65536 = y
    generalize b / 65536 = z
    generalize b % 65536 = t
    rw [Int.add_mul, Int.mul_add, Int.mul_add]
    have e1 : x * 65536 * (z * 65536) = x * z * 4294967296 := by rw [Int.mul_assoc, Int.mul_comm 65536 (z * 65536), Int.mul_assoc z, ← Int.mul_assoc]; rfl
    have e2 : x * 65536 * t = x * t * 65536 := by rw [Int.mul_assoc, Int.mul_comm 65536 t, ← Int.mul_assoc]
    have e3 : y * (z * 65536) = y * z * 65536 := by rw [← Int.mul_assoc]
    rw [e1, e2, e3]
    omega
  rw [e] at hm ⊢
  generalize a / 65536 * (b / 65536) = p at *
  generalize a / 65536 * (b % 65536) = q at *
  generalize a % 65536 * (b / 65536) = r at *
  generalize a % 65536 * (b % 65536) = s at *
  omega

/-! The lowest bits with their sign. -/
def extV (n : Int) (p : Int) : Int := (if p / 2 ≤ n % p then n % p - p else n % p) % 4294967296
theorem ext_same (n : Int) (b : Nat) (hb : 1 ≤ b) (hb' : b ≤ 31) :
    sg (n * p2 (32 - (b : Int)) % 4294967296) / p2 (32 - (b : Int)) % 4294967296 = extV n (pk b) := by
  have hc : b = 1 ∨ b = 2 ∨ b = 3 ∨ b = 4 ∨ b = 5 ∨ b = 6 ∨ b = 7 ∨ b = 8 ∨ b = 9 ∨ b = 10 ∨ b = 11 ∨ b = 12 ∨ b = 13 ∨ b = 14 ∨ b = 15 ∨ b = 16 ∨ b = 17 ∨ b = 18 ∨ b = 19 ∨ b = 20 ∨ b = 21 ∨ b = 22 ∨ b = 23 ∨ b = 24 ∨ b = 25 ∨ b = 26 ∨ b = 27 ∨ b = 28 ∨ b = 29 ∨ b = 30 ∨ b = 31 := by omega
  have key : ∀ P Q : Int, (P, Q) ∈ [((2147483648 : Int), (2 : Int)), (1073741824, 4), (536870912, 8), (268435456, 16), (134217728, 32), (67108864, 64), (33554432, 128), (16777216, 256), (8388608, 512), (4194304, 1024), (2097152, 2048), (1048576, 4096), (524288, 8192), (262144, 16384), (131072, 32768), (65536, 65536), (32768, 131072), (16384, 262144), (8192, 524288), (4096, 1048576), (2048, 2097152), (1024, 4194304), (512, 8388608), (256, 16777216), (128, 33554432), (64, 67108864), (32, 134217728), (16, 268435456), (8, 536870912), (4, 1073741824), (2, 2147483648)] → sg (n * P % 4294967296) / P % 4294967296 = extV n Q := by
    intro P Q h
    simp only [List.mem_cons, List.not_mem_nil, Prod.mk.injEq, or_false] at h
    rcases h with ⟨rfl, rfl⟩ | ⟨rfl, rfl⟩ | ⟨rfl, rfl⟩ | ⟨rfl, rfl⟩ | ⟨rfl, rfl⟩ | ⟨rfl, rfl⟩ | ⟨rfl, rfl⟩ | ⟨rfl, rfl⟩ | ⟨rfl, rfl⟩ | ⟨rfl, rfl⟩ | ⟨rfl, rfl⟩ | ⟨rfl, rfl⟩ | ⟨rfl, rfl⟩ | ⟨rfl, rfl⟩ | ⟨rfl, rfl⟩ | ⟨rfl, rfl⟩ | ⟨rfl, rfl⟩ | ⟨rfl, rfl⟩ | ⟨rfl, rfl⟩ | ⟨rfl, rfl⟩ | ⟨rfl, rfl⟩ | ⟨rfl, rfl⟩ | ⟨rfl, rfl⟩ | ⟨rfl, rfl⟩ | ⟨rfl, rfl⟩ | ⟨rfl, rfl⟩ | ⟨rfl, rfl⟩ | ⟨rfl, rfl⟩ | ⟨rfl, rfl⟩ | ⟨rfl, rfl⟩ | ⟨rfl, rfl⟩ <;> unfold extV sg <;> split <;> split <;> omega
  rcases hc with rfl | rfl | rfl | rfl | rfl | rfl | rfl | rfl | rfl | rfl | rfl | rfl | rfl | rfl | rfl | rfl | rfl | rfl | rfl | rfl | rfl | rfl | rfl | rfl | rfl | rfl | rfl | rfl | rfl | rfl | rfl <;> exact key _ _ (by decide)

/-! What the quotient, times the divisor, and what is left make. -/
theorem mod_mul (x b : Int) : x % 4294967296 * b % 4294967296 = x * b % 4294967296 := by rw [Int.mul_emod, Int.emod_emod, ← Int.mul_emod]
theorem again_signed (a b : Int) (h0 : 0 ≤ a) (h1 : a < 4294967296) :
    ((sg a).tdiv (sg b) % 4294967296 * b % 4294967296 + (sg a).tmod (sg b) % 4294967296) % 4294967296 = a := by
  rw [mod_mul]
  have hb : ∃ k, b = sg b + k * 4294967296 := by
    unfold sg; split
    · exact ⟨0, by omega⟩
    · exact ⟨1, by omega⟩
  obtain ⟨k, hk⟩ := hb
  have e : (sg a).tdiv (sg b) * b = (sg a).tdiv (sg b) * sg b + (sg a).tdiv (sg b) * k * 4294967296 := by
    have h : (sg a).tdiv (sg b) * b = (sg a).tdiv (sg b) * (sg b + k * 4294967296) := by rw [← hk]
    rw [h, Int.mul_add, Int.mul_assoc]
  rw [e]
  have h := Int.tdiv_mul_add_tmod (sg a) (sg b)
  have ha := sg_mod a h0 h1
  generalize (sg a).tdiv (sg b) * sg b = t at *
  generalize (sg a).tdiv (sg b) * k = u at *
  omega
theorem again_plain (a b : Int) (h0 : 0 ≤ a) (h1 : a < 4294967296) (h2 : 0 < b) : (a / b * b % 4294967296 + a % b) % 4294967296 = a := by
  have h := div_bd a b (by omega)
  have hq := ediv_bd a b (by omega) h0
  have hm := Int.mul_nonneg hq.1 (show 0 ≤ b by omega)
  have he := Int.mul_ediv_add_emod a b
  rw [Int.mul_comm] at he
  omega
theorem fell_bd (a p : Int) (h0 : 0 ≤ a) (h1 : a < 4294967296) (h2 : 1 ≤ p) : (a - a / p * p % 4294967296) % 4294967296 = a % p := by
  have h := div_bd a p h2
  have hq := ediv_bd a p h2 h0
  have hm := Int.mul_nonneg hq.1 (show 0 ≤ p by omega)
  have he := Int.mul_ediv_add_emod a p
  rw [Int.mul_comm] at he
  omega
theorem sg_inj (a b : Int) (h0 : 0 ≤ a) (h1 : a < 4294967296) (h2 : 0 ≤ b) (h3 : b < 4294967296) (h : sg a = sg b) : a = b := by
  have ha := sg_mod a h0 h1
  have hb := sg_mod b h2 h3
  rw [h] at ha
  omega
end Go.Proofs.Ytpmiiffgcaoemaa
