/-
  Contracts of the layer 'image', the fifth part: 'Line', 'SetLine'. Conditions: those that each theorem names.
-/
import Derived.Test.YtcibjhdkjkhhhaaImgE
namespace Go.Proofs.Ytcibjhdkjkhhhaa
open Go.RowKit Go.Lib

/-- Sixteen bytes as an array's value. -/
def bcells (l : List UInt8) : Array Value := (l.map u8v).toArray
def arr (l : List UInt8) : Value := .agg (bcells l)
theorem bcells_size (l : List UInt8) : (bcells l).size = l.length := by simp [bcells]
theorem bcells_one (l : List UInt8) : (bcells l).all (·.oneCell') = true := by
  rw [Array.all_eq_true]
  intro i hi
  simp [bcells, u8v_one]
/-- The block of a new array of sixteen bytes. -/
def arr0 : Obj := .cells #[.int .u8 0, .int .u8 0, .int .u8 0, .int .u8 0, .int .u8 0, .int .u8 0, .int .u8 0, .int .u8 0, .int .u8 0, .int .u8 0, .int .u8 0, .int .u8 0, .int .u8 0, .int .u8 0, .int .u8 0, .int .u8 0] 46
theorem arr0_row (w : World) : RowT 46 (w.alloc arr0) w.heap.size 16 (List.replicate 16 0) :=
  ⟨_, heap_alloc_new w _, rfl, by simp, by unfold maxLen; omega, rfl⟩

theorem online_any (l m : List UInt8) (hl : l.length = 16) (hm : m.length = 16) (g o c k : Nat) (w : World) (hc : RowT 46 w c k m)
    (hb : ∀ (i : Nat) (x : UInt8), l[i]? = some x → w.cell? ⟨g, o + i, none⟩ = some (u8v x)) :
    Calls Try.prog 33 #[.slice (some ⟨g, o, none⟩) 16 16, .pointer (some ⟨c, 0, none⟩)] w fun e w' => e = .returned (.tuple #[]) ∧ RowT 46 w' c k l ∧ w.grownBy w' (some c) := by
  have hb' : ∀ (i : Nat) (x : UInt8), l[i]? = some x → w.cell? ((⟨g, o, none⟩ : Addr).add i) = some (u8v x) := fun i x hx => by
    have hadd : (⟨g, o, none⟩ : Addr).add i = ⟨g, o + i, none⟩ := by unfold Addr.add; split <;> simp_all
    rw [hadd]
    exact hb i x hx
  have HB := hid hb'; clear hb hb'
  have HC := hid hc; clear hc
  have HP := hid (show putAt m 0 l = l by unfold putAt; simp [hl, hm])
  have HL := hid hl; clear hl
  have HM := hid hm; clear hm
  go_enter Try.func33, Try.ntmps33
  go_wp2_with (refine wpList_copy_bytes rfl _ _ rfl c 0 16 16 ⟨g, o, none⟩ 16 16 rfl rfl HC.out l (by rw [HL.out]; rfl) (fun i x hx => HB.out i x hx) (by rw [HL.out, HM.out]; omega) ?_; intro w2 hr2 hg2)
  go_end0
  rw [HP.out] at hr2
  exact ⟨rfl, hr2, hg2⟩
theorem onset_any (l m : List UInt8) (hm : m.length = 16) (g o c k k2 : Nat) (w : World) (hr : Row w g k2 l) (ho : o + 16 ≤ l.length)
    (hb : RowT 46 w c k m) :
    Calls Try.prog 34 #[.slice (some ⟨g, o, none⟩) 16 16, .pointer (some ⟨c, 0, none⟩)] w fun e w' => e = .returned (.tuple #[]) ∧ Row w' g k2 (putAt l o m) ∧ w.grownBy w' (some g) := by
  have HB := hid hb; clear hb
  have HR := hid hr; clear hr
  have HM := hid hm; clear hm
  go_enter Try.func34, Try.ntmps34
  go_wp2_with (refine wpList_copy_bytes rfl _ _ rfl g o 16 16 ⟨c, 0, none⟩ 16 16 rfl rfl HR.out m (by rw [HM.out]; rfl) (fun i x hx => HB.out.src.2 _ rfl i x hx) (by rw [HM.out]; omega) ?_; intro w2 hr2 hg2)
  go_end0
  exact ⟨rfl, hr2, hg2⟩

/-! ### 'line' -/
theorem line_nil (n : Int) (K : Nat) (cv : Value) (w : World) : Calls Try.prog 32 #[.pointer none, .int .u32 n, .func (.func K) #[] #[cv]] w fun e w' => e = .returned (.int .i64 1) ∧ w = w' := by
  go_enter Try.func32, Try.ntmps32
  go_wp2_with (go_at_call 29; refine (none_nil _).mono ?_; rintro e w' ⟨rfl, rfl⟩)
  go_ret
  exact ⟨rfl, rfl⟩
theorem line_range {p g cap : Nat} {l : List UInt8} (n : Nat) (K : Nat) (cv : Value) (w : World) (h : Img w p g cap l) (hn : l.length / 16 ≤ n) (hb : l.length ≤ 4096) :
    Calls Try.prog 32 #[.pointer (some ⟨p, 0, none⟩), .int .u32 (n : Int), .func (.func K) #[] #[cv]] w fun e w' => e = .returned (.int .i64 4) ∧ w = w' := by
  have hcell := h.cell
  have H' := hid h; clear h
  have nl : (l.length : Int) / 16 ≤ (n : Int) := by omega
  go_enter Try.func32, Try.ntmps32
  go_wp2_with (go_at_call 29; refine (none_img _ H'.out).mono ?_; rintro e w' ⟨rfl, rfl⟩)
  go_ret
  exact ⟨rfl, rfl⟩
theorem line_get {p g cap : Nat} {l : List UInt8} (n : Nat) (cv : Value) (w : World) (R : World → Prop) (h : Img w p g cap l) (hn : 16 * n + 16 ≤ l.length) (hb : l.length ≤ 4096)
    (hon : Calls Try.prog 33 #[.slice (some ⟨g, 16 * n, none⟩) 16 16, cv] w fun e w' => e = .returned (.tuple #[]) ∧ R w') :
    Calls Try.prog 32 #[.pointer (some ⟨p, 0, none⟩), .int .u32 (n : Int), .func (.func 33) #[] #[cv]] w fun e w' => e = .returned (.int .i64 0) ∧ R w' := by
  have hlen := h.2.1.len
  unfold maxLen at hlen
  have hcell := h.cell
  have H' := hid h; clear h
  have hon' : Calls Try.prog 33 #[.slice (some ⟨g, n * 16, none⟩) 16 16, cv] w fun e w' => e = .returned (.tuple #[]) ∧ R w' := by rw [Nat.mul_comm]; exact hon
  have HON := hid hon'; clear hon hon'
  have nl : ¬ (l.length : Int) / 16 ≤ (n : Int) := by omega
  go_enter Try.func32, Try.ntmps32
  go_wp2_with (first | (go_at_call 29; refine (none_img _ H'.out).mono ?_; rintro e w' ⟨rfl, rfl⟩) | (go_at_call 33; refine HON.out.mono ?_; rintro e w' ⟨rfl, hR⟩))
  go_ret
  exact ⟨rfl, hR⟩
theorem line_set {p g cap : Nat} {l : List UInt8} (n : Nat) (cv : Value) (w : World) (R : World → Prop) (h : Img w p g cap l) (hn : 16 * n + 16 ≤ l.length) (hb : l.length ≤ 4096)
    (hon : Calls Try.prog 34 #[.slice (some ⟨g, 16 * n, none⟩) 16 16, cv] w fun e w' => e = .returned (.tuple #[]) ∧ R w') :
    Calls Try.prog 32 #[.pointer (some ⟨p, 0, none⟩), .int .u32 (n : Int), .func (.func 34) #[] #[cv]] w fun e w' => e = .returned (.int .i64 0) ∧ R w' := by
  have hlen := h.2.1.len
  unfold maxLen at hlen
  have hcell := h.cell
  have H' := hid h; clear h
  have hon' : Calls Try.prog 34 #[.slice (some ⟨g, n * 16, none⟩) 16 16, cv] w fun e w' => e = .returned (.tuple #[]) ∧ R w' := by rw [Nat.mul_comm]; exact hon
  have HON := hid hon'; clear hon hon'
  have nl : ¬ (l.length : Int) / 16 ≤ (n : Int) := by omega
  go_enter Try.func32, Try.ntmps32
  go_wp2_with (first | (go_at_call 29; refine (none_img _ H'.out).mono ?_; rintro e w' ⟨rfl, rfl⟩) | (go_at_call 34; refine HON.out.mono ?_; rintro e w' ⟨rfl, hR⟩))
  go_ret
  exact ⟨rfl, hR⟩

/-! ### 'Line', 'SetLine' -/
theorem RowT.whole {t : TypeId} {w : World} {g : Nat} {l : List UInt8} (h : RowT t w g 16 l) (hl : l.length = 16) : w.heap[g]? = some (.cells (bcells l) t (0, 0)) := by
  obtain ⟨cur, hg, hs, _, _, ht⟩ := h
  have e : cur = bcells l := by
    unfold bcells
    have h1 : cur.toList.length = l.length := by rw [hl]; simpa using hs
    rw [List.take_of_length_le (by omega)] at ht
    rw [← ht]
  rw [hg, e]
theorem load_arr {w : World} {g : Nat} {cs : Array Value} (hg : w.heap[g]? = some (.cells cs 46 (0, 0))) (hs : cs.size = 16) : (loadVar 46 ⟨g, 0, none⟩).run Try.prog w = .ok (.agg cs) w :=
  run_loadVar_row w g _ _ cs (0, 0) _ hg Try.underlying46 rfl (by rw [hs]; kernel_rfl)
theorem line_of_nil (n : Int) (w : World) : Calls Try.prog 22 #[.pointer none, .int .u32 n] w fun e w' => e = .returned (.tuple #[arr (List.replicate 16 0), .int .i64 1]) ∧ w.grownBy w' none := by
  go_enter Try.func22, Try.ntmps22
  go_wp2_with (first | (go_at_call 32; refine (line_nil _ _ _ _).mono ?_; rintro e w' ⟨rfl, rfl⟩) | (refine wpList_load_row rfl 46 _ rfl (w.heap.size + 1) rfl 46 _ (0, 0) _ (heap_alloc2_new w _ _) Try.underlying46 rfl (by kernel_rfl) ?_))
  exact bodyPost_ret (v := .tuple #[arr (List.replicate 16 0), .int .i64 1]) (by simp [results, Try.results22, go_sem]; rfl) rfl ⟨rfl, gb_trans (gb_alloc _ _ _) (gb_alloc _ _ _)⟩
theorem line_of_range {p g cap : Nat} {l : List UInt8} (n : Nat) (w : World) (h : Img w p g cap l) (hn : l.length / 16 ≤ n) (hb : l.length ≤ 4096) : Calls Try.prog 22 #[.pointer (some ⟨p, 0, none⟩), .int .u32 (n : Int)] w fun e w' => e = .returned (.tuple #[arr (List.replicate 16 0), .int .i64 4]) ∧ w.grownBy w' none := by
  have hi := (h.grown (gb_alloc w arr0 none) (by simp) (by simp)).grown (gb_alloc _ arr0 none) (by simp) (by simp)
  have HI := hid hi; clear hi h
  go_enter Try.func22, Try.ntmps22
  go_wp2_with (first | (go_at_call 32; refine (line_range _ _ _ _ (by exact HI.out) hn hb).mono ?_; rintro e w' ⟨rfl, rfl⟩) | (refine wpList_load_row rfl 46 _ rfl (w.heap.size + 1) rfl 46 _ (0, 0) _ (heap_alloc2_new w _ _) Try.underlying46 rfl (by kernel_rfl) ?_))
  exact bodyPost_ret (v := .tuple #[arr (List.replicate 16 0), .int .i64 4]) (by simp [results, Try.results22, go_sem]; rfl) rfl ⟨rfl, gb_trans (gb_alloc _ _ _) (gb_alloc _ _ _)⟩
theorem line_ok {p g cap : Nat} {l : List UInt8} (n : Nat) (w : World) (h : Img w p g cap l) (hn : 16 * n + 16 ≤ l.length) (hb : l.length ≤ 4096) :
    Calls Try.prog 22 #[.pointer (some ⟨p, 0, none⟩), .int .u32 (n : Int)] w fun e w' => e = .returned (.tuple #[arr ((l.drop (16 * n)).take 16), .int .i64 0]) ∧ w.grownBy w' none := by
  have hi := (h.grown (gb_alloc w arr0 none) (by simp) (by simp)).grown (gb_alloc _ arr0 none) (by simp) (by simp)
  have hlen : ((l.drop (16 * n)).take 16).length = 16 := by simp; omega
  have hrow : RowT 46 ((w.alloc arr0).alloc arr0) (w.heap.size + 1) 16 (List.replicate 16 0) := by
    have := arr0_row (w.alloc arr0)
    rw [show (w.alloc arr0).heap.size = w.heap.size + 1 from by simp] at this
    exact this
  have hon := online_any ((l.drop (16 * n)).take 16) (List.replicate 16 0) hlen (by simp) g (16 * n) (w.heap.size + 1) 16 ((w.alloc arr0).alloc arr0) hrow (fun i x hx => by
      have hx' : l[16 * n + i]? = some x := by
        rw [List.getElem?_take] at hx
        split at hx
        · rw [List.getElem?_drop] at hx; exact hx
        · cases hx
      exact hi.2.1.cell _ _ hx')
  have hacc := line_get n (.pointer (some ⟨w.heap.size + 1, 0, none⟩)) ((w.alloc arr0).alloc arr0) _ hi hn hb hon
  clear hon hi h hrow
  generalize (l.drop (16 * n)).take 16 = xs at *
  have HA := hid hacc
  have HL := hid hlen; clear hacc hlen
  go_enter Try.func22, Try.ntmps22
  go_wp2_with fail
  refine HA.out.mono ?_; rintro e w2 ⟨rfl, hrow, hgb⟩
  have hold := (hgb.block w.heap.size (by simp; omega) (by simp)).trans (heap_alloc2_old w arr0 arr0)
  unfold arr0 at hold
  have HB := hid (hrow.whole HL.out)
  have HO := hid hold
  have HS := hid ((bcells_size xs).trans HL.out)
  have HG := hid (gb_new (g := w.heap.size + 1) (gb_trans (gb_alloc w arr0 none) (gb_alloc _ arr0 none)) hgb (by omega))
  clear hold hgb hrow
  go_wp2_with (first | (refine wpList_load_row rfl 46 _ rfl (w.heap.size + 1) rfl 46 _ (0, 0) _ HB.out Try.underlying46 rfl (by rw [HS.out]; kernel_rfl) ?_) | (refine wpList_store_row rfl 46 _ _ rfl w.heap.size _ rfl rfl 46 _ HO.out (by rw [HS.out]; kernel_rfl) (by rw [HS.out]; rfl) (bcells_one xs) ?_))
  have hres := load_arr (setRow_heap w2 w.heap.size _ (bcells xs) _ _ HO.out) HS.out
  refine bodyPost_ret (v := .tuple #[arr xs, .int .i64 0]) ?_ rfl ⟨rfl, ?_⟩
  · simp [results, Try.results22, asAddr, hres]
    rfl
  · exact gb_new HG.out (g := w.heap.size) ⟨rfl, rfl, rfl, by simp, fun k _ hn => setRow_other w2 _ k _ (fun e => hn (by rw [e]))⟩ (Nat.le_refl _)
end Go.Proofs.Ytcibjhdkjkhhhaa
