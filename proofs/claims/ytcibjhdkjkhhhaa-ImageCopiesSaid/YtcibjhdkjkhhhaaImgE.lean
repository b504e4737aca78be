/-
  Contracts of the layer 'image', the fourth part: 'Of', 'Bytes', 'Copy', 'Same'. Conditions: those that each theorem names.
-/
import Derived.Test.YtcibjhdkjkhhhaaImgD
namespace Go.Proofs.Ytcibjhdkjkhhhaa
open Go.RowKit Go.Lib

theorem of_no {l : List UInt8} (a : Option Addr) (cap : Nat) (w : World) (h : szB (l.length : Int) = false) : Calls Try.prog 15 #[.slice a l.length cap] w fun e w' => e = .returned (.tuple #[.pointer none, .int .i64 2]) ∧ w = w' := by
  have H := hid h; clear h
  go_enter Try.func15, Try.ntmps15
  go_wp2_with (go_at_call 9; refine (new_no _ _ H.out).mono ?_; rintro e w' ⟨rfl, rfl⟩)
  go_ret2
  exact ⟨rfl, rfl⟩
theorem putAt_all (l m : List UInt8) (h : m.length = l.length) : putAt m 0 l = l := by
  unfold putAt
  simp [h]
theorem of_ok {l : List UInt8} (a : Option Addr) (cap : Nat) (w : World) (h : szB (l.length : Int) = true) (hs : Src w a l) :
    Calls Try.prog 15 #[.slice a l.length cap] w fun e w' => e = .returned (.tuple #[.pointer (some ⟨w.heap.size + 1, 0, none⟩), .int .i64 0]) ∧ Img w' (w.heap.size + 1) w.heap.size l.length l ∧ w.grownBy w' none := by
  have hl := szB_le h
  obtain ⟨ad, rfl⟩ : ∃ ad, a = some ad := by
    cases a with
    | none => have := hs.1 rfl; subst this; simp at hl
    | some ad => exact ⟨ad, rfl⟩
  have H := hid h
  have HS := hid hs; clear hs h
  go_enter Try.func15, Try.ntmps15
  go_wp2_with fail
  refine (new_ok _ _ H.out).mono ?_; rintro e w1 ⟨rfl, hi, hgb⟩
  have hc := hi.cell
  have HI := hid hi; clear hi
  have HG := hid hgb; clear hgb
  rw [List.length_replicate] at hc
  go_wp2_with (refine wpList_copy_bytes rfl _ _ rfl w.heap.size 0 l.length l.length ad l.length cap rfl rfl HI.out.2.1 l (by simp) (fun i x hx => HG.out.cell (HS.out.2 ad rfl i x hx) (by simp)) (by simp) ?_; intro w2 hr2 hg2)
  go_ret2
  have hp := HI.out.1
  rw [List.length_replicate] at hp
  rw [putAt_all l _ (by simp)] at hr2
  exact ⟨rfl, ⟨(hg2.block _ HI.out.lt.1 (by simp)).trans hp, hr2, by omega⟩, gb_new HG.out hg2 (Nat.le_refl _)⟩

/-! ### 'Bytes' -/
theorem clone_src {l : List UInt8} (ad : Addr) (cap : Nat) (w : World) (hs : Src w (some ad) l) (hb : l.length ≤ 10000) :
    Calls Try.prog 30 #[.slice (some ad) l.length cap] w fun e w' => ∃ g k, e = .returned (.slice (some ⟨g, 0, none⟩) l.length k) ∧ Row w' g k l ∧ w.heap.size ≤ g ∧ w.grownBy w' none := by
  obtain ⟨i0, hi, hz0, hz1, hz2⟩ := info_parts info5
  have qT : ∀ (w : World) (a : Option Addr) (n c n' c' : Nat), (binOp .eql 30 (.slice a n c) (.slice none n' c')).run Try.prog w = .ok (.bool a.isNone) w := fun w a n c n' c' => Lib.run_eql_slice_nil w _ _ a n c n' c' Try.underlying30
  have HS := hid hs; clear hs
  go_enter Try.func30, Try.ntmps30
  go_wp2_with (at_builtin; refine wpList_append_own _ rfl _ _ 30 rfl w.heap.size 5 i0 (.int .u8 0) 1 1 Try.underlying30 hi hz0 hz1 hz2 rfl (by decide) _ _ _ rfl (World.ownsRow_made w #[] 0 (Nat.le_refl _) (Nat.zero_le _) rfl) ad l.length cap (l.map u8v) rfl ?qc1 ?qc2 ?qc3 ?qc4 ?qc5 ?qc6 ?_)
  case qc1 => simp
  case qc2 =>
    intro j u hj
    rw [List.getElem?_map] at hj
    cases hx : l[j]? with
    | none => rw [hx] at hj; cases hj
    | some x =>
      rw [hx] at hj
      simp at hj
      subst hj
      exact (gb_alloc w _ none).cell (HS.out.2 ad rfl j x hx) (by simp)
  case qc3 => intro u hu; obtain ⟨x, _, rfl⟩ := List.mem_map.1 hu; rfl
  case qc4 => unfold maxLen; omega
  case qc5 => omega
  case qc6 => simp
  intro v' w1 hown hgrow hnil
  have hex : ∃ g k cur, v' = .slice (some ⟨g, 0, none⟩) l.length k ∧ w.heap.size ≤ g ∧ w1.heap[g]? = some (.cells cur 5 (0, 0)) ∧ l.length ≤ k ∧ k ≤ maxLen ∧ cur.size = k ∧ cur.toList.take l.length = l.map u8v := by
    rcases hown.2 with ⟨hv, _⟩ | ⟨g, k, cur, hv, hb, hh, h1, h2, h3, h4⟩
    · exact absurd hv hnil
    · exact ⟨g, k, cur, hv, hb, hh, by omega, h2, by simpa using h3, by simpa using h4⟩
  obtain ⟨g, k, cur, hv, hb2, hh, h1, h2, h3, h4⟩ := hex
  have HF := hid (⟨hh, h1, h2, h3, h4⟩ : w1.heap[g]? = some (.cells cur 5 (0, 0)) ∧ l.length ≤ k ∧ k ≤ maxLen ∧ cur.size = k ∧ cur.toList.take l.length = l.map u8v)
  have HG := hid (gb_new (g := w.heap.size) (gb_alloc w (.cells #[] 5) none) (by simpa [Value.ownBlock] using hgrow) (Nat.le_refl _))
  clear hnil hown hgrow hh h1 h2 h3 h4
  rw [hv]
  clear hv
  go_wp2
  go_ret
  exact ⟨g, k, rfl, ⟨cur, HF.out.1, HF.out.2.2.2.1, HF.out.2.1, HF.out.2.2.1, HF.out.2.2.2.2⟩, hb2, HG.out⟩

theorem bytes_nil (w : World) : Calls Try.prog 17 #[.pointer none] w fun e w' => e = .returned (.slice none 0 0) ∧ w = w' := by
  go_enter Try.func17, Try.ntmps17
  go_wp2_with (go_at_call 29; refine (none_nil _).mono ?_; rintro e w' ⟨rfl, rfl⟩)
  go_ret
  exact ⟨rfl, rfl⟩
theorem bytes_img {p g cap : Nat} {l : List UInt8} (w : World) (h : Img w p g cap l) (hb : l.length ≤ 10000) :
    Calls Try.prog 17 #[.pointer (some ⟨p, 0, none⟩)] w fun e w' => ∃ g' k, e = .returned (.slice (some ⟨g', 0, none⟩) l.length k) ∧ Row w' g' k l ∧ w.heap.size ≤ g' ∧ w.grownBy w' none := by
  have hc := h.cell
  have HI := hid h; clear h
  go_enter Try.func17, Try.ntmps17
  go_wp2_with (first | (go_at_call 29; refine (none_img _ HI.out).mono ?_; rintro e w' ⟨rfl, rfl⟩) | (go_at_call 30; refine (clone_src _ _ _ HI.out.2.1.src hb).mono ?_; rintro e w' ⟨g', k, rfl, hr, hg, hgb⟩))
  go_ret
  exact ⟨g', k, rfl, hr, hg, hgb⟩

/-! ### 'Copy' -/
theorem copy_nil (w : World) : Calls Try.prog 25 #[.pointer none] w fun e w' => e = .returned (.pointer none) ∧ w = w' := by
  go_enter Try.func25, Try.ntmps25
  go_wp2_with (go_at_call 29; refine (none_nil _).mono ?_; rintro e w' ⟨rfl, rfl⟩)
  go_ret
  exact ⟨rfl, rfl⟩
theorem copy_img {p g cap : Nat} {l : List UInt8} (w : World) (h : Img w p g cap l) (hb : l.length ≤ 10000) :
    Calls Try.prog 25 #[.pointer (some ⟨p, 0, none⟩)] w fun e w' => ∃ p' g' k, e = .returned (.pointer (some ⟨p', 0, none⟩)) ∧ Img w' p' g' k l ∧ w.heap.size ≤ p' ∧ w.heap.size ≤ g' ∧ w.grownBy w' none := by
  have HI := hid h; clear h
  go_enter Try.func25, Try.ntmps25
  go_wp2_with (first | (go_at_call 29; refine (none_img _ HI.out).mono ?_; rintro e w' ⟨rfl, rfl⟩) | (go_at_call 17; refine (bytes_img _ HI.out hb).mono ?_; rintro e w1 ⟨g', k, rfl, hr, hg, hgb⟩))
  go_ret
  refine ⟨w1.heap.size, g', k, rfl, ⟨heap_alloc_new w1 _, hr.grown (gb_alloc _ _ none) (by simp), by have := hr.lt; omega⟩, hgb.size, hg, gb_trans hgb (gb_alloc _ _ _)⟩

/-! ### 'Same' -/
theorem conv_src {w : World} {a : Option Addr} {l : List UInt8} (h : Src w a l) (c : Nat) : (convert 30 9 (.slice a l.length c)).run Try.prog w = .ok (.string ⟨l.toArray⟩) w := by
  have hb : Lib.BytesIn w a l.length (l.map fun x => (x.toNat : Int)) := by
    cases a with
    | none => have := h.1 rfl; subst this; exact Lib.BytesIn.nil _ _ _
    | some ad =>
      refine Lib.BytesIn.of_cells fun i hi => ?_
      rw [h.2 ad rfl i l[i] (List.getElem?_eq_getElem hi)]
      simp [u8v, List.getD, hi]
  have hr := Lib.BytesIn.convert (P := Try.prog) hb (by simp) c 30 5 9 Try.underlying30 Try.underlying5 Try.underlying9
  have e : strOfNums (l.map fun x => (x.toNat : Int)) = ⟨l.toArray⟩ := by
    unfold strOfNums
    simp [Function.comp_def]
  rw [e] at hr
  exact hr
theorem equal_any {l m : List UInt8} (a b : Option Addr) (c d : Nat) (w : World) (ha : Src w a l) (hb : Src w b m) :
    Calls Try.prog 35 #[.slice a l.length c, .slice b m.length d] w fun e w' => e = .returned (.bool (l == m)) ∧ w' = w := by
  have h1 := conv_src ha c
  have h2 := conv_src hb d
  clear ha hb
  go_enter Try.func35, Try.ntmps35
  go_wp2
  go_ret
  exact ⟨rfl, rfl⟩
theorem same_nil_nil (w : World) : Calls Try.prog 26 #[.pointer none, .pointer none] w fun e w' => e = .returned (.bool true) ∧ w = w' := by
  go_enter Try.func26, Try.ntmps26
  go_wp2_with (go_at_call 29; refine (none_nil _).mono ?_; rintro e w' ⟨rfl, rfl⟩)
  go_ret
  exact ⟨rfl, rfl⟩
theorem same_nil_img {p g cap : Nat} {l : List UInt8} (w : World) (h : Img w p g cap l) : Calls Try.prog 26 #[.pointer none, .pointer (some ⟨p, 0, none⟩)] w fun e w' => e = .returned (.bool false) ∧ w = w' := by
  have HI := hid h; clear h
  go_enter Try.func26, Try.ntmps26
  go_wp2_with fail
  refine (none_nil _).mono ?_; rintro e w' ⟨rfl, rfl⟩
  go_wp2_with fail
  refine (none_nil _).mono ?_; rintro e w' ⟨rfl, rfl⟩
  go_wp2_with fail
  refine (none_img _ HI.out).mono ?_; rintro e w' ⟨rfl, rfl⟩
  go_wp2_with fail
  go_ret
  exact ⟨rfl, rfl⟩
theorem same_img_nil {p g cap : Nat} {l : List UInt8} (w : World) (h : Img w p g cap l) : Calls Try.prog 26 #[.pointer (some ⟨p, 0, none⟩), .pointer none] w fun e w' => e = .returned (.bool false) ∧ w = w' := by
  have HI := hid h; clear h
  go_enter Try.func26, Try.ntmps26
  go_wp2_with fail
  refine (none_img _ HI.out).mono ?_; rintro e w' ⟨rfl, rfl⟩
  go_wp2_with fail
  refine (none_nil _).mono ?_; rintro e w' ⟨rfl, rfl⟩
  go_wp2_with fail
  refine (none_img _ HI.out).mono ?_; rintro e w' ⟨rfl, rfl⟩
  go_wp2_with fail
  go_ret
  exact ⟨rfl, rfl⟩
theorem same_img_img {p g cap p2 g2 cap2 : Nat} {l m : List UInt8} (w : World) (h : Img w p g cap l) (h2 : Img w p2 g2 cap2 m) : Calls Try.prog 26 #[.pointer (some ⟨p, 0, none⟩), .pointer (some ⟨p2, 0, none⟩)] w fun e w' => e = .returned (.bool (l == m)) ∧ ∃ n, w.drewN n = w' := by
  have hc := h.cell
  have hc2 := h2.cell
  have HI := hid h; clear h
  have HI2 := hid h2; clear h2
  go_enter Try.func26, Try.ntmps26
  go_wp2_with fail
  refine (none_img _ HI.out).mono ?_; rintro e w' ⟨rfl, rfl⟩
  go_wp2_with fail
  refine (none_img _ HI2.out).mono ?_; rintro e w' ⟨rfl, rfl⟩
  go_wp2_with fail
  go_quiet ((go_at_call 35; exact Calls.quiet_of_same (equal_any _ _ _ _ _ HI.out.2.1.src HI2.out.2.1.src)))
  go_wp2
  go_ret
  exact ⟨rfl, _, rfl⟩
end Go.Proofs.Ytcibjhdkjkhhhaa
