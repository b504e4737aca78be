/-
  Contracts of the layer 'image', the sixth part: 'SetLine'. Conditions: those that each theorem names.
-/
import Derived.Test.YtcibjhdkjkhhhaaImgF
namespace Go.Proofs.Ytcibjhdkjkhhhaa
open Go.RowKit Go.Lib

theorem bcells_row (w : World) (m : List UInt8) (hm : m.length = 16) : RowT 46 (w.alloc (.cells (bcells m) 46)) w.heap.size 16 m :=
  ⟨_, heap_alloc_new w _, by rw [bcells_size]; exact hm, by omega, by unfold maxLen; omega, by show (m.map u8v).take m.length = _; rw [List.take_of_length_le (by simp)]⟩
theorem setline_nil (n : Int) (m : List UInt8) (w : World) : Calls Try.prog 23 #[.pointer none, .int .u32 n, arr m] w fun e w' => e = .returned (.int .i64 1) ∧ w.grownBy w' none := by
  unfold arr
  go_enter Try.func23, Try.ntmps23
  go_wp2_with (go_at_call 32; refine (line_nil _ _ _ _).mono ?_; rintro e w' ⟨rfl, rfl⟩)
  go_ret
  exact ⟨rfl, gb_alloc _ _ _⟩
theorem setline_range {p g cap : Nat} {l : List UInt8} (n : Nat) (m : List UInt8) (w : World) (h : Img w p g cap l) (hn : l.length / 16 ≤ n) (hb : l.length ≤ 4096) : Calls Try.prog 23 #[.pointer (some ⟨p, 0, none⟩), .int .u32 (n : Int), arr m] w fun e w' => e = .returned (.int .i64 4) ∧ w.grownBy w' none := by
  have hi := h.grown (gb_alloc w (.cells (bcells m) 46) none) (by simp) (by simp)
  have HI := hid hi; clear hi h
  unfold arr
  go_enter Try.func23, Try.ntmps23
  go_wp2_with (go_at_call 32; refine (line_range _ _ _ _ HI.out hn hb).mono ?_; rintro e w' ⟨rfl, rfl⟩)
  go_ret
  exact ⟨rfl, gb_alloc _ _ _⟩
theorem setline_ok {p g cap : Nat} {l : List UInt8} (n : Nat) (m : List UInt8) (hm : m.length = 16) (w : World) (h : Img w p g cap l) (hn : 16 * n + 16 ≤ l.length) (hb : l.length ≤ 4096) :
    Calls Try.prog 23 #[.pointer (some ⟨p, 0, none⟩), .int .u32 (n : Int), arr m] w fun e w' => e = .returned (.int .i64 0) ∧ Img w' p g cap (putAt l (16 * n) m) ∧ w.grownBy w' (some g) := by
  have hi := h.grown (gb_alloc w (.cells (bcells m) 46) none) (by simp) (by simp)
  have hon := onset_any l m hm g (16 * n) w.heap.size 16 cap (w.alloc (.cells (bcells m) 46)) hi.2.1 hn (bcells_row w m hm)
  have hacc := line_set n (.pointer (some ⟨w.heap.size, 0, none⟩)) (w.alloc (.cells (bcells m) 46)) _ hi hn hb hon
  have hp := hi.1
  have hne := hi.2.2
  rw [← putAt_length l (16 * n) m (by omega)] at hp
  have HP := hid hp
  have HA := hid hacc; clear hacc hon hi h hp
  unfold arr
  go_enter Try.func23, Try.ntmps23
  go_wp2_with (go_at_call 32; refine HA.out.mono ?_; rintro e w' ⟨rfl, hrow, hgb⟩)
  go_ret
  exact ⟨rfl, ⟨(hgb.block p (lt_of_block HP.out) (by simp; exact hne)).trans HP.out, hrow, hne⟩, gb_trans (gb_alloc _ _ _) hgb⟩
end Go.Proofs.Ytcibjhdkjkhhhaa
