/-
  Contracts of the layer 'image', the first part: the map of widths, the closures of 'Read' and 'Write'. Conditions: those that each theorem names.
-/
import Derived.Test.YtcibjhdkjkhhhaaRows
import Derived.Test.YtcibjhdkjkhhhaaImgA
import Derived.WalkKit
import Derived.ProofKit
import Derived.WalkLawsBesides
import Derived.Lib.Hide
import Derived.Deep.QuietTactic
import Derived.BigQuiet
import Derived.BigRegion
namespace Go.Proofs.Ytcibjhdkjkhhhaa
open Go.RowKit Go.Lib

/-- A new entry into the map that was made last. -/
theorem upd_new (w : World) (es : Array MapEntry) (c : Nat) (k : Int) (hn : Instr.findNow (.int .i64) (.int .i64 k) es.toList 0 = some none) :
    (Instr.mapUpdate 61 (.map (some w.heap.size)) (.int .i64 k) (.bool true)).run Try.prog (w.alloc (.map es c)) = .ok () (w.alloc (.map (es.push { key := .int .i64 k, val := .bool true, born := c }) (c + 1))) := by
  have hb : (w.alloc (.map es c)).heap[w.heap.size]? = some (.map es c) := heap_alloc_new w _
  have hk : MapKept.IsKey (.int .i64) (.int .i64 k) := by simp [MapKept.IsKey]
  have h3 : Try.prog.underlying 3 = some (.int .i64) := Try.underlying3
  simp [Instr.mapUpdate, run_underlying Try.underlying61, MapKept.run_getObj_map hb, MapKept.run_checkKey h3 hk, MapKept.run_findKey h3 hn, MapKept.run_setObj_map _ hb]
  show ({ w with heap := (w.heap.push _).setIfInBounds _ _ } : World) = { w with heap := _ }
  congr 1
  simp [Array.setIfInBounds, Array.push]
theorem look_some (w : World) (es : Array MapEntry) (c : Nat) (k : Int) (i g : Nat) (hw : w.heap[g]? = some (.map es c)) (v : Value) (hn : Instr.findNow (.int .i64) (.int .i64 k) es.toList 0 = some (some (i, v))) :
    (Instr.lookup 61 (.map (some g)) (.int .i64 k) false).run Try.prog w = .ok v w := by
  have hk : MapKept.IsKey (.int .i64) (.int .i64 k) := by simp [MapKept.IsKey]
  have h3 : Try.prog.underlying 3 = some (.int .i64) := Try.underlying3
  simp [Instr.lookup, run_underlying Try.underlying61, MapKept.run_getObj_map hw, MapKept.run_checkKey h3 hk, MapKept.run_findKey h3 hn]
theorem look_none (w : World) (es : Array MapEntry) (c : Nat) (k : Int) (g : Nat) (hw : w.heap[g]? = some (.map es c)) (hn : Instr.findNow (.int .i64) (.int .i64 k) es.toList 0 = some none) :
    (Instr.lookup 61 (.map (some g)) (.int .i64 k) false).run Try.prog w = .ok (.bool false) w := by
  have hk : MapKept.IsKey (.int .i64) (.int .i64 k) := by simp [MapKept.IsKey]
  have h3 : Try.prog.underlying 3 = some (.int .i64) := Try.underlying3
  simp [Instr.lookup, run_underlying Try.underlying61, MapKept.run_getObj_map hw, MapKept.run_checkKey h3 hk, MapKept.run_findKey h3 hn]

/-- The closure of 'Read': the captured cell holds the number that the bytes are. -/
theorem onread_any (l : List UInt8) (hl : l.length ≤ 4) (g o c cap : Nat) (w : World) (hc : w.heap[c]? = some (.cells #[.int .u32 0] 31 (0, 0))) (hcg : c ≠ g)
    (hb : ∀ (i : Nat) (x : UInt8), l[i]? = some x → w.cell? ⟨g, o + i, none⟩ = some (u8v x)) :
    Calls Try.prog 28 #[.slice (some ⟨g, o, none⟩) l.length cap, .pointer (some ⟨c, 0, none⟩)] w fun e w' => e = .returned (.tuple #[]) ∧ w'.heap[c]? = some (.cells #[.int .u32 (leV l)] 31 (0, 0)) ∧ w.grownBy w' (some c) := by
  have HB := hid hb; clear hb
  have HC := hid hc; clear hc
  go_enter Try.func28, Try.ntmps28
  go_wp2
  go_loopw [7] (fun i wr => ∃ k : Nat, k ≤ l.length ∧ i = .int .i64 k ∧ Hid (wr.heap[c]? = some (.cells #[.int .u32 (leV (l.take k))] 31 (0, 0)) ∧ w.grownBy wr (some c))) (fun i _ => l.length - (intOf i).toNat)
  case atStart => exact ⟨0, Nat.zero_le _, rfl, hid ⟨by simpa [leV] using HC.out, gb_refl _ _⟩⟩
  case round =>
    obtain ⟨k, hk, rfl, HR⟩ := hrel
    by_cases hlt : k < l.length
    · have hcell : wr.cell? ⟨g, o + k, none⟩ = some (u8v l[k]) := by
        have h1 := HB.out k l[k] (List.getElem?_eq_getElem hlt)
        exact HR.out.2.cell h1 (by simp; omega)
      have hcc := cell_of_one HR.out.1
      have hcf := free_of_one HR.out.1
      unfold u8v at hcell
      have hx := l[k].toNat_lt
      go_wp2
      go_region
      go_wp2
      have hs : bits .or .u32 (leV (l.take k)) ((l[k].toNat : Int) * 2 ^ (8 * k) % 4294967296) = leV (l.take (k + 1)) := by
        have h1 := or_step (l.take k) l[k] (by simp; omega)
        have h2 : (l.take k).length = k := by simp; omega
        rw [h2] at h1
        rw [h1, List.take_succ_eq_append_getElem hlt]
      have HS := hid hs; clear hs
      go_roundw
      case rel => exact ⟨k + 1, by omega, by go_num, hid ⟨by rw [HS.out]; exact one_setCell HR.out.1, gb_trans HR.out.2 (gb_trans (gb_setCell _ _ _ _) (gb_drew _ _))⟩⟩
      case measure => simp [intOf]; omega
    · obtain rfl : k = l.length := by omega
      go_wp2
      go_end0
      exact ⟨rfl, by have h := HR.out.1; rw [List.take_length] at h; exact h, HR.out.2⟩

/-- The closure of 'Write': the bytes from o on are the number's, the lowest one ahead. -/
theorem onwrite_any (l : List UInt8) (n : Nat) (v : Int) (hn : n ≤ 4) (g o c cap k2 : Nat) (w : World) (hc : w.heap[c]? = some (.cells #[.int .u32 v] 31 (0, 0))) (hcg : c ≠ g) (hr : Row w g k2 l) (ho : o + n ≤ l.length) :
    Calls Try.prog 31 #[.slice (some ⟨g, o, none⟩) n cap, .pointer (some ⟨c, 0, none⟩)] w fun e w' => e = .returned (.tuple #[]) ∧ Row w' g k2 (putAt l o (wrV v n)) ∧ w.grownBy w' (some g) := by
  have HR0 := hid hr; clear hr
  have HC := hid hc; clear hc
  go_enter Try.func31, Try.ntmps31
  go_wp2
  go_loopw [6] (fun i wr => ∃ k : Nat, k ≤ n ∧ i = .int .i64 k ∧ Hid (Row wr g k2 (putAt l o (wrV v k)) ∧ w.grownBy wr (some g))) (fun i _ => n - (intOf i).toNat)
  case atStart => exact ⟨0, Nat.zero_le _, rfl, hid ⟨by show Row w g k2 (putAt l o []); rw [putAt_nil]; exact HR0.out, gb_refl _ _⟩⟩
  case round =>
    obtain ⟨k, hk, rfl, HR⟩ := hrel
    by_cases hlt : k < n
    · have hcc : wr.cell? ⟨c, 0, none⟩ = some (.int .u32 v) := HR.out.2.cell (cell_of_one HC.out) (by simp; omega)
      have hgf : wr.frozen? ⟨g, o + k, none⟩ = false := HR.out.1.free _
      have hlen : (putAt l o (wrV v k)).length = l.length := putAt_length _ _ _ (by rw [wrV_length]; omega)
      obtain ⟨y, hy⟩ : ∃ y, (putAt l o (wrV v k))[o + k]? = some y := ⟨_, List.getElem?_eq_getElem (by omega)⟩
      have hgc : wr.cell? ⟨g, o + k, none⟩ = some (u8v y) := HR.out.1.cell _ _ hy
      unfold u8v at hgc
      clear hlen hy
      have hby : (v / 2 ^ (8 * k) % 256 : Int) = ((byteAt v k).toNat : Int) := by rw [byteAt_val, p256_two]; simp
      have HBY := hid hby; clear hby
      go_wp2
      go_roundw
      case rel =>
        refine ⟨k + 1, by omega, by go_num, hid ⟨?_, gb_trans HR.out.2 (gb_setCell _ _ _ _)⟩⟩
        have h1 := HR.out.1.setCell (o + k) (byteAt v k)
        have h2 := putAt_snoc l o (wrV v k) (byteAt v k) (by rw [wrV_length]; omega)
        rw [wrV_length] at h2
        rw [h2] at h1
        rw [HBY.out]
        exact h1
      case measure => simp [intOf]; omega
    · obtain rfl : k = n := by omega
      go_wp2
      go_end0
      exact ⟨rfl, HR.out.1, HR.out.2⟩

/-! ### 'none' and 'access' -/
theorem none_nil (w : World) : Calls Try.prog 29 #[.pointer none] w fun e w' => e = .returned (.bool true) ∧ w = w' := by
  go_enter Try.func29, Try.ntmps29
  go_wp2
  go_ret
  exact ⟨rfl, rfl⟩
theorem none_img {p g cap : Nat} {l : List UInt8} (w : World) (h : Img w p g cap l) : Calls Try.prog 29 #[.pointer (some ⟨p, 0, none⟩)] w fun e w' => e = .returned (.bool false) ∧ w = w' := by
  have hc := h.cell
  clear h
  have qT : ∀ (w : World) (a : Option Addr) (n c n' c' : Nat), (binOp .eql 30 (.slice a n c) (.slice none n' c')).run Try.prog w = .ok (.bool a.isNone) w := fun w a n c n' c' => Lib.run_eql_slice_nil w _ _ a n c n' c' Try.underlying30
  go_enter Try.func29, Try.ntmps29
  go_wp2
  go_ret
  exact ⟨rfl, rfl⟩

/-- The map of widths. -/
def widths : Obj := .map #[{ key := .int .i64 1, val := .bool true, born := 0 }, { key := .int .i64 2, val := .bool true, born := 1 }, { key := .int .i64 4, val := .bool true, born := 2 }] 3
theorem upd1 (w : World) : (Instr.mapUpdate 61 (.map (some w.heap.size)) (.int .i64 1) (.bool true)).run Try.prog (w.alloc (.map #[] 0)) = .ok () (w.alloc (.map #[{ key := .int .i64 1, val := .bool true, born := 0 }] 1)) := upd_new w #[] 0 1 rfl
theorem upd2 (w : World) : (Instr.mapUpdate 61 (.map (some w.heap.size)) (.int .i64 2) (.bool true)).run Try.prog (w.alloc (.map #[{ key := .int .i64 1, val := .bool true, born := 0 }] 1)) = .ok () (w.alloc (.map #[{ key := .int .i64 1, val := .bool true, born := 0 }, { key := .int .i64 2, val := .bool true, born := 1 }] 2)) := upd_new w _ 1 2 rfl
theorem upd3 (w : World) : (Instr.mapUpdate 61 (.map (some w.heap.size)) (.int .i64 4) (.bool true)).run Try.prog (w.alloc (.map #[{ key := .int .i64 1, val := .bool true, born := 0 }, { key := .int .i64 2, val := .bool true, born := 1 }] 2)) = .ok () (w.alloc widths) := upd_new w _ 2 4 rfl
theorem look1 (w : World) : (Instr.lookup 61 (.map (some w.heap.size)) (.int .i64 1) false).run Try.prog (w.alloc widths) = .ok (.bool true) (w.alloc widths) := look_some _ _ _ 1 0 _ (heap_alloc_new w _) _ rfl
theorem look2 (w : World) : (Instr.lookup 61 (.map (some w.heap.size)) (.int .i64 2) false).run Try.prog (w.alloc widths) = .ok (.bool true) (w.alloc widths) := look_some _ _ _ 2 1 _ (heap_alloc_new w _) _ rfl
theorem look4 (w : World) : (Instr.lookup 61 (.map (some w.heap.size)) (.int .i64 4) false).run Try.prog (w.alloc widths) = .ok (.bool true) (w.alloc widths) := look_some _ _ _ 4 2 _ (heap_alloc_new w _) _ rfl
theorem look0 (w : World) (k : Int) (h1 : k ≠ 1) (h2 : k ≠ 2) (h4 : k ≠ 4) : (Instr.lookup 61 (.map (some w.heap.size)) (.int .i64 k) false).run Try.prog (w.alloc widths) = .ok (.bool false) (w.alloc widths) :=
  look_none _ _ _ k _ (heap_alloc_new w _) (by simp only [Instr.findNow, Instr.sameNow, if_true, beq_eq_false_iff_ne.2 h1, beq_eq_false_iff_ne.2 h2, beq_eq_false_iff_ne.2 h4])

theorem access_nil (a wd : Int) (K : Nat) (cv : Value) (w : World) : Calls Try.prog 27 #[.pointer none, .int .u32 a, .int .i64 wd, .func (.func K) #[] #[cv]] w fun e w' => e = .returned (.int .i64 1) ∧ w.alloc widths = w' := by
  have hmm := @run_makeMap Try.prog
  have u1 := upd1
  have u2 := upd2
  have u3 := upd3
  go_enter Try.func27, Try.ntmps27
  go_wp2_with (go_at_call 29; refine (none_nil _).mono ?_; rintro e w' ⟨rfl, rfl⟩)
  go_ret
  exact ⟨rfl, rfl⟩
theorem access_read {p g cap : Nat} {l : List UInt8} (a wd : Nat) (cv : Value) (w : World) (R : World → Prop) (h : Img w p g cap l) (hw : wd = 1 ∨ wd = 2 ∨ wd = 4) (ha : a % wd = 0) (hl : a + wd ≤ l.length) (hb : l.length ≤ 4096)
    (hon : Calls Try.prog 28 #[.slice (some ⟨g, a, none⟩) wd wd, cv] (w.alloc widths) fun e w' => e = .returned (.tuple #[]) ∧ R w') :
    Calls Try.prog 27 #[.pointer (some ⟨p, 0, none⟩), .int .u32 (a : Int), .int .i64 (wd : Int), .func (.func 28) #[] #[cv]] w fun e w' => e = .returned (.int .i64 0) ∧ R w' := by
  have hmm := @run_makeMap Try.prog
  have u1 := upd1
  have u2 := upd2
  have u3 := upd3
  have hlen := h.2.1.len
  unfold maxLen at hlen
  have h' : Img (w.alloc widths) p g cap l := h.grown (gb_alloc w widths none) (by simp) (by simp)
  have hcell := h'.cell
  have H' := hid h'; clear h' h
  have HON := hid hon; clear hon
  rcases hw with rfl | rfl | rfl
  · have lk := look1
    have hmod : (a : Int) % 1 = 0 := by omega
    have nl : ¬ l.length ≤ a := by omega
    go_enter Try.func27, Try.ntmps27
    go_wp2_with (first | (go_at_call 29; refine (none_img _ H'.out).mono ?_; rintro e w' ⟨rfl, rfl⟩) | (go_at_call 28; refine HON.out.mono ?_; rintro e w' ⟨rfl, hR⟩))
    go_ret
    exact ⟨rfl, hR⟩
  · have lk := look2
    have hmod : (a : Int) % 2 = 0 := by omega
    have nl : ¬ l.length ≤ a := by omega
    go_enter Try.func27, Try.ntmps27
    go_wp2_with (first | (go_at_call 29; refine (none_img _ H'.out).mono ?_; rintro e w' ⟨rfl, rfl⟩) | (go_at_call 28; refine HON.out.mono ?_; rintro e w' ⟨rfl, hR⟩))
    go_ret
    exact ⟨rfl, hR⟩
  · have lk := look4
    have hmod : (a : Int) % 4 = 0 := by omega
    have nl : ¬ l.length ≤ a := by omega
    go_enter Try.func27, Try.ntmps27
    go_wp2_with (first | (go_at_call 29; refine (none_img _ H'.out).mono ?_; rintro e w' ⟨rfl, rfl⟩) | (go_at_call 28; refine HON.out.mono ?_; rintro e w' ⟨rfl, hR⟩))
    go_ret
    exact ⟨rfl, hR⟩
theorem access_write {p g cap : Nat} {l : List UInt8} (a wd : Nat) (cv : Value) (w : World) (R : World → Prop) (h : Img w p g cap l) (hw : wd = 1 ∨ wd = 2 ∨ wd = 4) (ha : a % wd = 0) (hl : a + wd ≤ l.length) (hb : l.length ≤ 4096)
    (hon : Calls Try.prog 31 #[.slice (some ⟨g, a, none⟩) wd wd, cv] (w.alloc widths) fun e w' => e = .returned (.tuple #[]) ∧ R w') :
    Calls Try.prog 27 #[.pointer (some ⟨p, 0, none⟩), .int .u32 (a : Int), .int .i64 (wd : Int), .func (.func 31) #[] #[cv]] w fun e w' => e = .returned (.int .i64 0) ∧ R w' := by
  have hmm := @run_makeMap Try.prog
  have u1 := upd1
  have u2 := upd2
  have u3 := upd3
  have hlen := h.2.1.len
  unfold maxLen at hlen
  have h' : Img (w.alloc widths) p g cap l := h.grown (gb_alloc w widths none) (by simp) (by simp)
  have hcell := h'.cell
  have H' := hid h'; clear h' h
  have HON := hid hon; clear hon
  rcases hw with rfl | rfl | rfl
  · have lk := look1
    have hmod : (a : Int) % 1 = 0 := by omega
    have nl : ¬ l.length ≤ a := by omega
    go_enter Try.func27, Try.ntmps27
    go_wp2_with (first | (go_at_call 29; refine (none_img _ H'.out).mono ?_; rintro e w' ⟨rfl, rfl⟩) | (go_at_call 31; refine HON.out.mono ?_; rintro e w' ⟨rfl, hR⟩))
    go_ret
    exact ⟨rfl, hR⟩
  · have lk := look2
    have hmod : (a : Int) % 2 = 0 := by omega
    have nl : ¬ l.length ≤ a := by omega
    go_enter Try.func27, Try.ntmps27
    go_wp2_with (first | (go_at_call 29; refine (none_img _ H'.out).mono ?_; rintro e w' ⟨rfl, rfl⟩) | (go_at_call 31; refine HON.out.mono ?_; rintro e w' ⟨rfl, hR⟩))
    go_ret
    exact ⟨rfl, hR⟩
  · have lk := look4
    have hmod : (a : Int) % 4 = 0 := by omega
    have nl : ¬ l.length ≤ a := by omega
    go_enter Try.func27, Try.ntmps27
    go_wp2_with (first | (go_at_call 29; refine (none_img _ H'.out).mono ?_; rintro e w' ⟨rfl, rfl⟩) | (go_at_call 31; refine HON.out.mono ?_; rintro e w' ⟨rfl, hR⟩))
    go_ret
    exact ⟨rfl, hR⟩
end Go.Proofs.Ytcibjhdkjkhhhaa
