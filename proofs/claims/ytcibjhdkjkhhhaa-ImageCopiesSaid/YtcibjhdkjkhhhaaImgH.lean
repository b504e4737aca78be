/-
  Contracts of the reference of layer 2 and of the small functions beside its statements. Conditions: those that each theorem names.
-/
import Derived.Test.YtcibjhdkjkhhhaaImgG
import Derived.Outline
namespace Go.Proofs.Ytcibjhdkjkhhhaa
open Go.RowKit Go.Lib

theorem num_any (x : Int) (w : World) : Calls Try.prog 11 #[.int .i64 x] w fun e w' => e = .returned (.int .i64 x) ∧ w = w' := by
  go_enter Try.func11, Try.ntmps11
  go_wp2
  go_ret
  exact ⟨rfl, rfl⟩

/-! ### 'Size' of the reference -/
def isK (k : Nat) : Prop := k = 16 ∨ k = 32 ∨ k = 64 ∨ k = 128 ∨ k = 256 ∨ k = 512 ∨ k = 1024 ∨ k = 2048 ∨ k = 4096 ∨ k = 8192
theorem isK_bd {k : Nat} (h : isK k) : 16 ≤ k ∧ k ≤ 8192 := by unfold isK at h; omega
theorem isK_next {k : Nat} (h : isK k) (hk : k ≤ 4096) : isK (k * 2) := by unfold isK at *; omega
theorem isK_sz {k : Nat} (h : isK k) (hk : k ≤ 4096) : szB (k : Int) = true := by
  unfold isK at h
  rcases h with rfl | rfl | rfl | rfl | rfl | rfl | rfl | rfl | rfl | rfl <;> first | rfl | omega
theorem szB_isK {n : Int} (h : szB n = true) : ∃ m : Nat, n = m ∧ isK m ∧ m ≤ 4096 := by
  unfold szB szN at h
  simp at h
  exact ⟨n.toNat, by omega, by unfold isK; omega, by omega⟩
theorem isK_step {k m : Nat} (h : isK k) (hm : isK m) (hle : k ≤ m) (hne : k ≠ m) : k * 2 ≤ m := by
  unfold isK at *
  rcases h with rfl | rfl | rfl | rfl | rfl | rfl | rfl | rfl | rfl | rfl <;> omega
theorem rsize_any (n : Int) (w : World) : Calls Try.prog 10 #[.int .i64 n] w fun e w' => e = .returned (.bool (szB n)) ∧ w = w' := by
  go_enter Try.func10, Try.ntmps10
  go_wp2
  go_loop [3] (fun i => ∃ k : Nat, i = .int .i64 k ∧ Hid (isK k) ∧ k ≤ 8192 ∧ Hid (szB n = true → (k : Int) ≤ n)) (fun i => 8192 - (RowKit.intOf i).toNat)
  case atStart => exact ⟨16, rfl, hid (by unfold isK; omega), by omega, hid (fun h => by obtain ⟨m, rfl, hm, _⟩ := szB_isK h; have := isK_bd hm; omega)⟩
  case round =>
    obtain ⟨k, rfl, HK, hk, HN⟩ := hrel
    by_cases hlt : k ≤ 4096
    · by_cases he : (k : Int) = n
      · subst he
        have hs := isK_sz HK.out hlt
        have HS := hid hs; clear hs
        go_wp2
        go_ret
        exact ⟨by rw [HS.out]; rfl, rfl⟩
      · have hne : ((k : Int) == n) = false := by rw [beq_eq_false_iff_ne]; exact he
        have h16 := (isK_bd HK.out).1
        go_wp2
        go_round
        case rel =>
          refine ⟨k * 2, by go_num, hid (isK_next HK.out hlt), by omega, hid (fun h => ?_)⟩
          have h1 := HN.out h
          obtain ⟨m, rfl, hm, _⟩ := szB_isK h
          have := isK_step HK.out hm (by omega) (by omega)
          omega
        case measure => simp [RowKit.intOf]; omega
    · have hs : szB n = false := by
        rw [Bool.eq_false_iff]
        intro h
        have h1 := HN.out h
        obtain ⟨m, rfl, hm, _⟩ := szB_isK h
        omega
      have HS := hid hs; clear hs
      go_wp2
      go_ret
      exact ⟨by rw [HS.out]; rfl, rfl⟩

/-! ### 'works' -/
def w16 : List UInt8 := [0, 0, 0, 0, 120, 86, 52, 18, 0, 0, 0, 0, 0, 0, 0, 0]
theorem ret_two {k : IntKind} {a b c d : Int} (h : a = b) (h2 : c = d) : Ending.returned (.tuple #[.int k a, .int .i64 c]) = .returned (.tuple #[.int k b, .int .i64 d]) := by rw [h, h2]
theorem wk1 (w : World) : Calls Try.prog 9 #[.int .i64 16] w fun e w' => e = .returned (.tuple #[.pointer (some ⟨w.heap.size + 1, 0, none⟩), .int .i64 0]) ∧ Img w' (w.heap.size + 1) w.heap.size 16 (List.replicate 16 0) ∧ w.grownBy w' none := new_ok 16 w rfl
theorem wk2 {p g : Nat} (w : World) (h : Img w p g 16 (List.replicate 16 0)) : Calls Try.prog 19 #[.pointer (some ⟨p, 0, none⟩), .int .u32 4, .int .i64 4, .int .u32 305419896] w fun e w' => e = .returned (.int .i64 0) ∧ Img w' p g 16 w16 ∧ w.grownBy w' (some g) :=
  (write_ok 4 4 305419896 w h (by omega) (by omega) (by simp) (by simp)).mono fun _ _ ⟨h1, h2, h3⟩ => ⟨h1, by rw [show w16 = putAt (List.replicate 16 0) 4 (wrV 305419896 4) from by decide]; exact h2, h3⟩
theorem wk3 {p g : Nat} (w : World) (h : Img w p g 16 w16) : Calls Try.prog 16 #[.pointer (some ⟨p, 0, none⟩), .int .u32 4, .int .i64 1] w fun e w' => e = .returned (.tuple #[.int .u32 120, .int .i64 0]) ∧ w.grownBy w' none :=
  (read_ok 4 1 w h (by omega) (by omega) (by decide) (by decide)).mono fun _ _ ⟨h1, h2⟩ => ⟨h1.trans (ret_two (by decide) rfl), h2⟩
theorem wk4 {p g : Nat} (w : World) (h : Img w p g 16 w16) : Calls Try.prog 16 #[.pointer (some ⟨p, 0, none⟩), .int .u32 6, .int .i64 2] w fun e w' => e = .returned (.tuple #[.int .u32 4660, .int .i64 0]) ∧ w.grownBy w' none :=
  (read_ok 6 2 w h (by omega) (by omega) (by decide) (by decide)).mono fun _ _ ⟨h1, h2⟩ => ⟨h1.trans (ret_two (by decide) rfl), h2⟩
theorem wk5 {p g : Nat} (w : World) (h : Img w p g 16 w16) : Calls Try.prog 16 #[.pointer (some ⟨p, 0, none⟩), .int .u32 2, .int .i64 4] w fun e w' => e = .returned (.tuple #[.int .u32 0, .int .i64 120]) ∧ w.grownBy w' none :=
  (read_no 2 4 w h (by decide) (by decide)).mono fun _ _ ⟨h1, h2⟩ => ⟨h1.trans (ret_two rfl (by decide)), h2⟩
theorem wk6 {p g : Nat} (w : World) (h : Img w p g 16 w16) : Calls Try.prog 13 #[.pointer (some ⟨p, 0, none⟩)] w fun e w' => e = .returned (.int .i64 16) ∧ w = w' := size_img w h
theorem works_any (w : World) : Calls Try.prog 12 #[] w fun e w' => e = .returned (.bool true) ∧ w.grownBy w' none := by
  go_enter Try.func12, Try.ntmps12
  go_wp2_with fail
  refine (wk1 _).mono ?_; rintro e w1 ⟨rfl, h1, g1⟩
  have H1 := hid h1
  have G1 := hid g1; clear h1 g1
  go_wp2_with fail
  refine (wk2 _ H1.out).mono ?_; rintro e w2 ⟨rfl, h2, g2⟩
  have H2 := hid h2
  have G2 := hid (gb_new G1.out g2 (Nat.le_refl _)); clear h2 g2 H1 G1
  go_wp2_with fail
  refine (wk3 _ H2.out).mono ?_; rintro e w3 ⟨rfl, g3⟩
  have H3 := hid (H2.out.grown g3 (by simp) (by simp))
  have G3 := hid (gb_trans G2.out g3); clear g3 H2 G2
  go_wp2_with fail
  refine (wk4 _ H3.out).mono ?_; rintro e w4 ⟨rfl, g4⟩
  have H4 := hid (H3.out.grown g4 (by simp) (by simp))
  have G4 := hid (gb_trans G3.out g4); clear g4 H3 G3
  go_wp2_with fail
  refine (wk5 _ H4.out).mono ?_; rintro e w5 ⟨rfl, g5⟩
  have H5 := hid (H4.out.grown g5 (by simp) (by simp))
  have G5 := hid (gb_trans G4.out g5); clear g5 H4 G4
  go_wp2_with (first | (go_at_call 11; refine (num_any _ _).mono ?_; rintro e w' ⟨rfl, rfl⟩) | (go_at_call 13; refine (wk6 _ H5.out).mono ?_; rintro e w' ⟨rfl, rfl⟩))
  go_ret
  exact ⟨rfl, G5.out⟩

/-! ### 'Refused', 'Read', 'Write' of the reference -/
theorem rrefused_any (a : Option Addr) (n c x : Nat) (wd : Int) (w : World) (hx : x < 4294967296) : Calls Try.prog 18 #[.slice a n c, .int .u32 (x : Int), .int .i64 wd] w fun e w' => e = .returned (.int .i64 (refused n x wd)) ∧ w = w' := by
  unfold refused
  by_cases hw : wd ≠ 1 ∧ wd ≠ 2 ∧ wd ≠ 4
  · rw [if_pos hw]
    obtain ⟨h1, h2, h4⟩ := hw
    have e1 : (wd != 1) = true := bne_iff_ne.2 h1
    have e2 : (wd != 2) = true := bne_iff_ne.2 h2
    have e4 : (wd != 4) = true := bne_iff_ne.2 h4
    clear h1 h2 h4
    go_enter Try.func18, Try.ntmps18
    go_wp2
    go_ret
    exact ⟨rfl, rfl⟩
  · rw [if_neg hw]
    obtain ⟨d, rfl⟩ : ∃ d : Nat, wd = d := ⟨wd.toNat, by omega⟩
    have hd : d = 1 ∨ d = 2 ∨ d = 4 := by omega
    rw [Int.toNat_natCast]
    clear hw
    by_cases hm : x % d = 0
    · rw [if_neg (by omega)]
      by_cases hl : n ≤ x
      · rw [if_pos hl]
        rcases hd with rfl | rfl | rfl
        · have e1 : (x : Int) % 1 = 0 := by omega
          go_enter Try.func18, Try.ntmps18
          go_wp2
          go_ret
          exact ⟨rfl, rfl⟩
        · have e1 : (x : Int) % 2 = 0 := by omega
          go_enter Try.func18, Try.ntmps18
          go_wp2
          go_ret
          exact ⟨rfl, rfl⟩
        · have e1 : (x : Int) % 4 = 0 := by omega
          go_enter Try.func18, Try.ntmps18
          go_wp2
          go_ret
          exact ⟨rfl, rfl⟩
      · rw [if_neg hl]
        rcases hd with rfl | rfl | rfl
        · have e1 : (x : Int) % 1 = 0 := by omega
          go_enter Try.func18, Try.ntmps18
          go_wp2
          go_ret
          exact ⟨rfl, rfl⟩
        · have e1 : (x : Int) % 2 = 0 := by omega
          go_enter Try.func18, Try.ntmps18
          go_wp2
          go_ret
          exact ⟨rfl, rfl⟩
        · have e1 : (x : Int) % 4 = 0 := by omega
          go_enter Try.func18, Try.ntmps18
          go_wp2
          go_ret
          exact ⟨rfl, rfl⟩
    · rw [if_pos hm]
      rcases hd with rfl | rfl | rfl
      · omega
      · have e1 : ((x : Int) % 2 != 0) = true := by rw [bne_iff_ne]; omega
        go_enter Try.func18, Try.ntmps18
        go_wp2
        go_ret
        exact ⟨rfl, rfl⟩
      · have e1 : ((x : Int) % 4 != 0) = true := by rw [bne_iff_ne]; omega
        go_enter Try.func18, Try.ntmps18
        go_wp2
        go_ret
        exact ⟨rfl, rfl⟩
end Go.Proofs.Ytcibjhdkjkhhhaa
