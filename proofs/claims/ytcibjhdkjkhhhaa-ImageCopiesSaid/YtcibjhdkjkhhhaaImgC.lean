/-
  Contracts of the layer 'image', the second part: what 'access' refuses; 'Read' and 'Write'. Conditions: those that each theorem names.
-/
import Derived.Test.YtcibjhdkjkhhhaaImgB
namespace Go.Proofs.Ytcibjhdkjkhhhaa
open Go.RowKit Go.Lib

theorem access_arg {p g cap : Nat} {l : List UInt8} (a : Nat) (wd : Int) (K : Nat) (cv : Value) (w : World) (h : Img w p g cap l) (h1 : wd ≠ 1) (h2 : wd ≠ 2) (h4 : wd ≠ 4) :
    Calls Try.prog 27 #[.pointer (some ⟨p, 0, none⟩), .int .u32 (a : Int), .int .i64 wd, .func (.func K) #[] #[cv]] w fun e w' => e = .returned (.int .i64 2) ∧ w.alloc widths = w' := by
  have hmm := @run_makeMap Try.prog
  have u1 := upd1
  have u2 := upd2
  have u3 := upd3
  have lk := fun w => look0 w wd h1 h2 h4
  have h' : Img (w.alloc widths) p g cap l := h.grown (gb_alloc w widths none) (by simp) (by simp)
  have H' := hid h'; clear h' h
  go_enter Try.func27, Try.ntmps27
  go_wp2_with (go_at_call 29; refine (none_img _ H'.out).mono ?_; rintro e w' ⟨rfl, rfl⟩)
  go_ret
  exact ⟨rfl, rfl⟩
theorem access_align {p g cap : Nat} {l : List UInt8} (a wd : Nat) (K : Nat) (cv : Value) (w : World) (h : Img w p g cap l) (hw : wd = 1 ∨ wd = 2 ∨ wd = 4) (ha : ¬ a % wd = 0) :
    Calls Try.prog 27 #[.pointer (some ⟨p, 0, none⟩), .int .u32 (a : Int), .int .i64 (wd : Int), .func (.func K) #[] #[cv]] w fun e w' => e = .returned (.int .i64 120) ∧ w.alloc widths = w' := by
  have hmm := @run_makeMap Try.prog
  have u1 := upd1
  have u2 := upd2
  have u3 := upd3
  have h' : Img (w.alloc widths) p g cap l := h.grown (gb_alloc w widths none) (by simp) (by simp)
  have H' := hid h'; clear h' h
  rcases hw with rfl | rfl | rfl
  · omega
  · have lk := look2
    have hmod : ((a : Int) % 2 != 0) = true := by rw [bne_iff_ne]; omega
    go_enter Try.func27, Try.ntmps27
    go_wp2_with (go_at_call 29; refine (none_img _ H'.out).mono ?_; rintro e w' ⟨rfl, rfl⟩)
    go_ret
    exact ⟨rfl, rfl⟩
  · have lk := look4
    have hmod : ((a : Int) % 4 != 0) = true := by rw [bne_iff_ne]; omega
    go_enter Try.func27, Try.ntmps27
    go_wp2_with (go_at_call 29; refine (none_img _ H'.out).mono ?_; rintro e w' ⟨rfl, rfl⟩)
    go_ret
    exact ⟨rfl, rfl⟩
theorem access_range {p g cap : Nat} {l : List UInt8} (a wd : Nat) (K : Nat) (cv : Value) (w : World) (h : Img w p g cap l) (hw : wd = 1 ∨ wd = 2 ∨ wd = 4) (ha : a % wd = 0) (hb : l.length ≤ 4096) (hl : l.length ≤ a) :
    Calls Try.prog 27 #[.pointer (some ⟨p, 0, none⟩), .int .u32 (a : Int), .int .i64 (wd : Int), .func (.func K) #[] #[cv]] w fun e w' => e = .returned (.int .i64 4) ∧ w.alloc widths = w' := by
  have hmm := @run_makeMap Try.prog
  have u1 := upd1
  have u2 := upd2
  have u3 := upd3
  have hlen := h.2.1.len
  unfold maxLen at hlen
  have h' : Img (w.alloc widths) p g cap l := h.grown (gb_alloc w widths none) (by simp) (by simp)
  have hcell := h'.cell
  have H' := hid h'; clear h' h
  rcases hw with rfl | rfl | rfl
  · have lk := look1
    have hmod : (a : Int) % 1 = 0 := by omega
    go_enter Try.func27, Try.ntmps27
    go_wp2_with (go_at_call 29; refine (none_img _ H'.out).mono ?_; rintro e w' ⟨rfl, rfl⟩)
    go_ret
    exact ⟨rfl, rfl⟩
  · have lk := look2
    have hmod : (a : Int) % 2 = 0 := by omega
    go_enter Try.func27, Try.ntmps27
    go_wp2_with (go_at_call 29; refine (none_img _ H'.out).mono ?_; rintro e w' ⟨rfl, rfl⟩)
    go_ret
    exact ⟨rfl, rfl⟩
  · have lk := look4
    have hmod : (a : Int) % 4 = 0 := by omega
    go_enter Try.func27, Try.ntmps27
    go_wp2_with (go_at_call 29; refine (none_img _ H'.out).mono ?_; rintro e w' ⟨rfl, rfl⟩)
    go_ret
    exact ⟨rfl, rfl⟩

/-- What is wrong with an access to so many bytes: an error's number, 0: nothing. -/
def refused (n a : Nat) (wd : Int) : Int :=
  if wd ≠ 1 ∧ wd ≠ 2 ∧ wd ≠ 4 then 2 else if ¬ a % wd.toNat = 0 then 120 else if n ≤ a then 4 else 0
theorem access_no {p g cap : Nat} {l : List UInt8} (a : Nat) (wd : Int) (K : Nat) (cv : Value) (w : World) (h : Img w p g cap l) (hb : l.length ≤ 4096) (hr : refused l.length a wd ≠ 0) :
    Calls Try.prog 27 #[.pointer (some ⟨p, 0, none⟩), .int .u32 (a : Int), .int .i64 wd, .func (.func K) #[] #[cv]] w fun e w' => e = .returned (.int .i64 (refused l.length a wd)) ∧ w.alloc widths = w' := by
  unfold refused at *
  by_cases hw : wd ≠ 1 ∧ wd ≠ 2 ∧ wd ≠ 4
  · rw [if_pos hw]
    exact access_arg a wd K cv w h hw.1 hw.2.1 hw.2.2
  · rw [if_neg hw] at hr ⊢
    obtain ⟨n, rfl⟩ : ∃ n : Nat, wd = n := ⟨wd.toNat, by omega⟩
    rw [Int.toNat_natCast] at hr ⊢
    by_cases ha : a % n = 0
    · rw [if_neg (by omega)] at hr ⊢
      by_cases hl : l.length ≤ a
      · rw [if_pos hl]
        exact access_range a n K cv w h (by omega) ha hb hl
      · rw [if_neg hl] at hr; omega
    · rw [if_pos ha]
      exact access_align a n K cv w h (by omega) ha

/-! ### 'Read' and 'Write' -/
theorem read_nil (a wd : Int) (w : World) : Calls Try.prog 16 #[.pointer none, .int .u32 a, .int .i64 wd] w fun e w' => e = .returned (.tuple #[.int .u32 0, .int .i64 1]) ∧ w.grownBy w' none := by
  go_enter Try.func16, Try.ntmps16
  go_wp2_with (go_at_call 27; refine (access_nil _ _ _ _ _).mono ?_; rintro e w' ⟨rfl, rfl⟩)
  go_ret2
  exact ⟨rfl, gb_trans (gb_alloc _ _ _) (gb_alloc _ _ _)⟩
theorem read_no {p g cap : Nat} {l : List UInt8} (a : Nat) (wd : Int) (w : World) (h : Img w p g cap l) (hb : l.length ≤ 4096) (hr : refused l.length a wd ≠ 0) :
    Calls Try.prog 16 #[.pointer (some ⟨p, 0, none⟩), .int .u32 (a : Int), .int .i64 wd] w fun e w' => e = .returned (.tuple #[.int .u32 0, .int .i64 (refused l.length a wd)]) ∧ w.grownBy w' none := by
  have HR := hid hr; clear hr
  have hi := fun o => h.grown (gb_alloc w o none) (by simp) (by simp)
  have HI := hid hi; clear hi h
  go_enter Try.func16, Try.ntmps16
  go_wp2_with (go_at_call 27; refine (access_no _ _ _ _ _ (HI.out _) hb HR.out).mono ?_; rintro e w' ⟨rfl, rfl⟩)
  go_ret2
  exact ⟨rfl, gb_trans (gb_alloc _ _ _) (gb_alloc _ _ _)⟩
theorem read_ok {p g cap : Nat} {l : List UInt8} (a wd : Nat) (w : World) (h : Img w p g cap l) (hw : wd = 1 ∨ wd = 2 ∨ wd = 4) (ha : a % wd = 0) (hl : a + wd ≤ l.length) (hb : l.length ≤ 4096) :
    Calls Try.prog 16 #[.pointer (some ⟨p, 0, none⟩), .int .u32 (a : Int), .int .i64 (wd : Int)] w fun e w' => e = .returned (.tuple #[.int .u32 (leV ((l.drop a).take wd)), .int .i64 0]) ∧ w.grownBy w' none := by
  have hi := h.grown (gb_alloc w (.cells #[.int .u32 0] 31) none) (by simp) (by simp)
  have hon := onread_any ((l.drop a).take wd) (by simp; omega) g a w.heap.size wd ((w.alloc (.cells #[.int .u32 0] 31)).alloc widths)
    ((heap_alloc_old _ _ (by simp)).trans (heap_alloc_new w _)) (by have := h.lt; omega) (fun i x hx => by
      have hx' : l[a + i]? = some x := by
        rw [List.getElem?_take] at hx
        split at hx
        · rw [List.getElem?_drop] at hx; exact hx
        · cases hx
      exact (hi.2.1.grown (gb_alloc _ widths none) (by simp)).cell _ _ hx')
  have hlen : ((l.drop a).take wd).length = wd := by simp; omega
  rw [hlen] at hon
  have hacc := access_read a wd (.pointer (some ⟨w.heap.size, 0, none⟩)) (w.alloc (.cells #[.int .u32 0] 31)) _ hi hw ha hl hb hon
  have HA := hid hacc; clear hacc hlen hon hi h
  go_enter Try.func16, Try.ntmps16
  go_wp2_with (go_at_call 27; refine HA.out.mono ?_; rintro e w' ⟨rfl, hcell, hgb⟩; have hc := cell_of_one hcell; clear hcell)
  go_ret2
  exact ⟨rfl, gb_new (gb_trans (gb_alloc _ _ _) (gb_alloc _ _ _)) hgb (Nat.le_refl _)⟩
theorem write_nil (a wd v : Int) (w : World) : Calls Try.prog 19 #[.pointer none, .int .u32 a, .int .i64 wd, .int .u32 v] w fun e w' => e = .returned (.int .i64 1) ∧ w.grownBy w' none := by
  go_enter Try.func19, Try.ntmps19
  go_wp2_with (go_at_call 27; refine (access_nil _ _ _ _ _).mono ?_; rintro e w' ⟨rfl, rfl⟩)
  go_ret
  exact ⟨rfl, gb_trans (gb_alloc _ _ _) (gb_alloc _ _ _)⟩
theorem write_no {p g cap : Nat} {l : List UInt8} (a : Nat) (wd v : Int) (w : World) (h : Img w p g cap l) (hb : l.length ≤ 4096) (hr : refused l.length a wd ≠ 0) :
    Calls Try.prog 19 #[.pointer (some ⟨p, 0, none⟩), .int .u32 (a : Int), .int .i64 wd, .int .u32 v] w fun e w' => e = .returned (.int .i64 (refused l.length a wd)) ∧ w.grownBy w' none := by
  have HR := hid hr; clear hr
  have hi := fun o => h.grown (gb_alloc w o none) (by simp) (by simp)
  have HI := hid hi; clear hi h
  go_enter Try.func19, Try.ntmps19
  go_wp2_with (go_at_call 27; refine (access_no _ _ _ _ _ (HI.out _) hb HR.out).mono ?_; rintro e w' ⟨rfl, rfl⟩)
  go_ret
  exact ⟨rfl, gb_trans (gb_alloc _ _ _) (gb_alloc _ _ _)⟩
theorem write_ok {p g cap : Nat} {l : List UInt8} (a wd : Nat) (v : Int) (w : World) (h : Img w p g cap l) (hw : wd = 1 ∨ wd = 2 ∨ wd = 4) (ha : a % wd = 0) (hl : a + wd ≤ l.length) (hb : l.length ≤ 4096) :
    Calls Try.prog 19 #[.pointer (some ⟨p, 0, none⟩), .int .u32 (a : Int), .int .i64 (wd : Int), .int .u32 v] w fun e w' => e = .returned (.int .i64 0) ∧ Img w' p g cap (putAt l a (wrV v wd)) ∧ w.grownBy w' (some g) := by
  have hi := h.grown (gb_alloc w (.cells #[.int .u32 v] 31) none) (by simp) (by simp)
  have hi2 := hi.grown (gb_alloc _ widths none) (by simp) (by simp)
  have hlt := h.lt
  have hon := onwrite_any l wd v (by omega) g a w.heap.size wd cap ((w.alloc (.cells #[.int .u32 v] 31)).alloc widths)
    ((heap_alloc_old _ _ (by simp)).trans (heap_alloc_new w _)) (by omega) hi2.2.1 hl
  have hacc := access_write a wd (.pointer (some ⟨w.heap.size, 0, none⟩)) (w.alloc (.cells #[.int .u32 v] 31)) _ hi hw ha hl hb hon
  have hp := hi2.1
  have hne := hi2.2.2
  have hlen := putAt_length l a (wrV v wd) (by rw [wrV_length]; exact hl)
  rw [← hlen] at hp
  have HP := hid hp
  have HL := hid hlen
  have HA := hid hacc; clear hacc hon hi hi2 h hp hlen hlt
  go_enter Try.func19, Try.ntmps19
  go_wp2_with (go_at_call 27; refine HA.out.mono ?_; rintro e w' ⟨rfl, hrow, hgb⟩)
  go_ret
  exact ⟨rfl, ⟨(hgb.block p (lt_of_block HP.out) (by simp; exact hne)).trans HP.out, hrow, hne⟩, gb_trans (gb_trans (gb_alloc _ _ _) (gb_alloc _ _ _)) hgb⟩
end Go.Proofs.Ytcibjhdkjkhhhaa
