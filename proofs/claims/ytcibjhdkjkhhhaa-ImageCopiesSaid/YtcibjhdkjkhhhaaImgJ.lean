/-
  Contracts of the reference's 'Read', 'Write', 'Line'. Conditions: those that each theorem names.
-/
import Derived.Test.YtcibjhdkjkhhhaaImgI
namespace Go.Proofs.Ytcibjhdkjkhhhaa
open Go.RowKit Go.Lib

theorem leV_cons (l : List UInt8) (i n : Nat) (x : UInt8) (hx : l[i]? = some x) : leV ((l.drop i).take (n + 1)) = leV ((l.drop (i + 1)).take n) * 256 + (x.toNat : Int) := by
  have hi : i < l.length := (List.getElem?_eq_some_iff.1 hx).1
  have e : l[i] = x := (List.getElem?_eq_some_iff.1 hx).2
  rw [List.drop_eq_getElem_cons hi, List.take_succ_cons, e]
  simp only [leV]
  omega
theorem leV_le (l : List UInt8) (h : l.length ≤ 3) : 0 ≤ leV l ∧ leV l < 16777216 := by
  have hb := leV_bd l
  have h3 : p256 3 = 16777216 := by decide
  have := p256_mono l.length (3 - l.length)
  rw [show l.length + (3 - l.length) = 3 from by omega, h3] at this
  omega
theorem rread_any {l : List UInt8} (g k n c a wd : Nat) (w : World) (hr : Row w g k l) (hn : l.length = n) (hw : wd ≤ 4) (ha : a + wd ≤ n) (hb : n ≤ 4096) :
    Calls Try.prog 20 #[.slice (some ⟨g, 0, none⟩) n c, .int .u32 (a : Int), .int .i64 (wd : Int)] w fun e w' => e = .returned (.int .u32 (leV ((l.drop a).take wd))) ∧ w = w' := by
  have HR := hid hr; clear hr
  have HN := hid hn; clear hn
  go_enter Try.func20, Try.ntmps20
  go_wp2
  go_loop [7, 8] (fun v i => ∃ j : Nat, j ≤ wd ∧ i = .int .i64 ((j : Int) - 1) ∧ v = .int .u32 (leV ((l.drop (a + j)).take (wd - j)))) (fun _ i => (RowKit.intOf i + 1).toNat)
  case atStart => exact ⟨wd, Nat.le_refl _, rfl, by simp [leV]⟩
  case round =>
    obtain ⟨j, hj, rfl, rfl⟩ := hrel
    cases j with
    | zero =>
      go_wp2
      go_ret
      exact ⟨by simp, rfl⟩
    | succ m =>
      have hlt : a + m < l.length := by rw [HN.out]; omega
      obtain ⟨x, hx⟩ : ∃ x, l[a + m]? = some x := ⟨_, List.getElem?_eq_getElem hlt⟩
      have hcell : w.cell? ⟨g, a + m, none⟩ = some (u8v x) := HR.out.cell _ _ hx
      have hl := leV_le ((l.drop (a + (m + 1))).take (wd - (m + 1))) (by simp; omega)
      have hxb := x.toNat_lt
      have hs := leV_cons l (a + m) (wd - (m + 1)) x hx
      rw [show wd - (m + 1) + 1 = wd - m from by omega] at hs
      have HS := hid hs
      clear hs hx hlt
      have e1 : ((m + 1 : Nat) : Int) - 1 = (m : Int) := by omega
      rw [e1]; clear e1
      generalize hX : leV ((l.drop (a + (m + 1))).take (wd - (m + 1))) = X at *
      unfold u8v at hcell
      clear hX
      go_wp2
      go_round
      case rel => exact ⟨m, by omega, rfl, by rw [HS.out]⟩
      case measure => simp [RowKit.intOf]

/-! ### 'Write' of the reference -/
def Wrote (w : World) (g k : Nat) (l : List UInt8) (wr : World) : Prop := Row wr g k l ∧ w.heap.size ≤ g ∧ w.grownBy wr none
def WritePost (w : World) (l : List UInt8) (e : Ending) (w' : World) : Prop := ∃ g k, e = .returned (.slice (some ⟨g, 0, none⟩) l.length k) ∧ Wrote w g k l w'
theorem p256_split (v : Int) (j : Nat) : v / p256 j / 256 = v / p256 (j + 1) := by
  have := p256_pos j
  rw [Int.ediv_ediv, if_neg (by omega), Int.sub_zero]
  show v / (p256 j * 256) = v / (256 * p256 j)
  rw [Int.mul_comm]
theorem rwrite_any {l : List UInt8} (g k n c a wd : Nat) (v : Int) (w : World) (hr : Row w g k l) (hn : l.length = n) (hw : wd ≤ 4) (ha : a + wd ≤ n) (hb : n ≤ 4096) (v0 : 0 ≤ v) (v1 : v < 4294967296) :
    Calls Try.prog 21 #[.slice (some ⟨g, 0, none⟩) n c, .int .u32 (a : Int), .int .i64 (wd : Int), .int .u32 v] w (WritePost w (putAt l a (wrV v wd))) := by
  obtain ⟨i0, hi, hz0, hz1, hz2⟩ := info_parts info5
  have HS := hid hr.src; clear hr
  have HN := hid hn; clear hn
  go_enter Try.func21, Try.ntmps21
  go_wp2_with (at_builtin; refine wpList_append_own _ rfl _ _ 30 rfl w.heap.size 5 i0 (.int .u8 0) 1 1 Try.underlying30 hi hz0 hz1 hz2 rfl (by decide) _ _ _ rfl (World.ownsRow_made w #[] 0 (Nat.le_refl _) (Nat.zero_le _) rfl) ⟨g, 0, none⟩ n c (l.map u8v) rfl ?qc1 ?qc2 ?qc3 ?qc4 ?qc5 ?qc6 ?_)
  case qc1 => simp; exact HN.out
  case qc2 =>
    intro j u hj
    rw [List.getElem?_map] at hj
    cases hx : l[j]? with
    | none => rw [hx] at hj; cases hj
    | some x =>
      rw [hx] at hj
      simp at hj
      subst hj
      exact (gb_alloc w _ none).cell (HS.out.2 _ rfl j x hx) (by simp)
  case qc3 => intro u hu; obtain ⟨x, _, rfl⟩ := List.mem_map.1 hu; rfl
  case qc4 => unfold maxLen; omega
  case qc5 => omega
  case qc6 => simp
  intro v' w1 hown hgrow hnil
  have hex : ∃ g' k', v' = .slice (some ⟨g', 0, none⟩) n k' ∧ Wrote w g' k' l w1 := by
    rcases hown.2 with ⟨hv, _⟩ | ⟨g', k', cur, hv, hb', hh, h1, h2, h3, h4⟩
    · exact absurd hv hnil
    · have hn := HN.out
      exact ⟨g', k', hv, ⟨cur, hh, by simpa using h3, by omega, h2, by rw [hn]; simpa using h4⟩, hb', gb_new (g := w.heap.size) (gb_alloc w (.cells #[] 5) none) (by simpa [Value.ownBlock] using hgrow) (Nat.le_refl _)⟩
  obtain ⟨g', k', hv, hwr⟩ := hex
  have HW := hid hwr
  clear hnil hown hgrow hwr
  rw [hv]
  clear hv
  go_wp2
  go_loopw [3, 10] (fun v3 i wr => ∃ j : Nat, j ≤ wd ∧ i = .int .i64 j ∧ v3 = .int .u32 (v / p256 j) ∧ Hid (Wrote w g' k' (putAt l a (wrV v j)) wr)) (fun _ i _ => wd - (RowKit.intOf i).toNat)
  case atStart => exact ⟨0, Nat.zero_le _, rfl, by simp [p256], hid (by show Wrote w g' k' (putAt l a []) w1; rw [putAt_nil]; exact HW.out)⟩
  case round =>
    obtain ⟨j, hj, rfl, rfl, HR⟩ := hrel
    by_cases hlt : j < wd
    · have hpl := putAt_length l a (wrV v j) (by rw [wrV_length]; have := HN.out; omega)
      have hn := HN.out
      obtain ⟨y, hy⟩ : ∃ y, (putAt l a (wrV v j))[a + j]? = some y := ⟨_, List.getElem?_eq_getElem (by omega)⟩
      have hdst : wr.cell? ⟨g', a + j, none⟩ = some (u8v y) := HR.out.1.cell _ _ hy
      have hfr : wr.frozen? ⟨g', a + j, none⟩ = false := HR.out.1.free _
      have h2 := putAt_snoc l a (wrV v j) (byteAt v j) (by rw [wrV_length]; omega)
      rw [wrV_length] at h2
      have h1 := HR.out.1.setCell (a + j) (byteAt v j)
      rw [h2] at h1
      have hnew : Wrote w g' k' (putAt l a (wrV v (j + 1))) (wr.setCell ⟨g', a + j, none⟩ (u8v (byteAt v j))) := ⟨h1, HR.out.2.1, gb_new HR.out.2.2 (gb_setCell _ _ _ _) HR.out.2.1⟩
      have e : u8v (byteAt v j) = .int .u8 (v / p256 j % 256) := by unfold u8v; rw [byteAt_val]
      rw [e] at hnew
      have HNEW := hid hnew
      have HD := hid (p256_split v j)
      have hp := p256_pos j
      have hq := Int.ediv_nonneg v0 (show 0 ≤ p256 j by omega)
      have hq2 : v / p256 j ≤ v := Int.ediv_le_self _ v0
      clear hpl hy h2 h1 hnew e hn HR
      unfold u8v at hdst
      generalize hV : v / p256 j = V at *
      clear hV
      go_wp2
      go_roundw
      case rel => exact ⟨j + 1, by omega, by go_num, by rw [HD.out], HNEW⟩
      case measure => simp [RowKit.intOf]; omega
    · obtain rfl : j = wd := by omega
      go_wp2
      go_ret
      have hpl := putAt_length l a (wrV v j) (by rw [wrV_length]; have := HN.out; omega)
      exact ⟨g', k', by rw [hpl, HN.out]; rfl, HR.out⟩

/-! ### 'Line' of the reference -/
def Lined (w : World) (xs : List UInt8) (j : Nat) (wr : World) : Prop := RowT 46 wr (w.heap.size + 1) 16 (putAt (List.replicate 16 0) 0 (xs.take j)) ∧ w.grownBy wr none ∧ wr.heap[w.heap.size]? = some arr0
theorem rline_any {l : List UInt8} (g k n c num : Nat) (w : World) (hr : Row w g k l) (hn : l.length = n) (ha : 16 * num + 16 ≤ n) (hb : n ≤ 4096) :
    Calls Try.prog 24 #[.slice (some ⟨g, 0, none⟩) n c, .int .u32 (num : Int)] w fun e w' => e = .returned (arr ((l.drop (16 * num)).take 16)) ∧ w.grownBy w' none := by
  have hlen : ((l.drop (16 * num)).take 16).length = 16 := by simp; omega
  have hcells : ∀ (i : Nat) (x : UInt8), ((l.drop (16 * num)).take 16)[i]? = some x → w.cell? ⟨g, 16 * num + i, none⟩ = some (u8v x) := fun i x hx => by
    have hx' : l[16 * num + i]? = some x := by
      rw [List.getElem?_take] at hx
      split at hx
      · rw [List.getElem?_drop] at hx; exact hx
      · cases hx
    exact hr.cell _ _ hx'
  generalize (l.drop (16 * num)).take 16 = xs at *
  have HC := hid hcells
  have HL := hid hlen
  clear hcells hlen hr hn
  go_enter Try.func24, Try.ntmps24
  go_wp2
  have hstart : Lined w xs 0 ((w.alloc arr0).alloc arr0) := by
    refine ⟨?_, gb_trans (gb_alloc _ _ _) (gb_alloc _ _ _), heap_alloc2_old w _ _⟩
    have := arr0_row (w.alloc arr0)
    rw [show (w.alloc arr0).heap.size = w.heap.size + 1 from by simp] at this
    rw [List.take_zero, putAt_nil]
    exact this
  unfold arr0 at hstart
  have HS := hid hstart
  clear hstart
  go_loopw [6] (fun i wr => ∃ j : Nat, j ≤ 16 ∧ i = .int .i64 j ∧ Hid (Lined w xs j wr)) (fun i _ => 16 - (RowKit.intOf i).toNat)
  case atStart => exact ⟨0, Nat.zero_le _, rfl, HS⟩
  case round =>
    obtain ⟨j, hj, rfl, HR⟩ := hrel
    by_cases hlt : j < 16
    · have hxl := HL.out
      obtain ⟨x, hx⟩ : ∃ x, xs[j]? = some x := ⟨_, List.getElem?_eq_getElem (by omega)⟩
      have hsrc : wr.cell? ⟨g, 16 * num + j, none⟩ = some (u8v x) := HR.out.2.1.cell (HC.out _ _ hx) (by simp)
      have hpl := putAt_length (List.replicate 16 0) 0 (xs.take j) (by simp; omega)
      obtain ⟨y, hy⟩ : ∃ y, (putAt (List.replicate 16 0) 0 (xs.take j))[j]? = some y := ⟨_, List.getElem?_eq_getElem (by rw [hpl]; simpa using hlt)⟩
      have hdst : wr.cell? ⟨w.heap.size + 1, j, none⟩ = some (u8v y) := HR.out.1.cell _ _ hy
      have hfr : wr.frozen? ⟨w.heap.size + 1, j, none⟩ = false := HR.out.1.free _
      have h2 := putAt_snoc (List.replicate 16 0) 0 (xs.take j) x (by simp; omega)
      have hj2 : (xs.take j).length = j := by simp; omega
      have hx2 : xs[j] = x := (List.getElem?_eq_some_iff.1 hx).2
      rw [hj2, Nat.zero_add, ← hx2, ← List.take_succ_eq_append_getElem (by omega), hx2] at h2
      have h1 := HR.out.1.setCell j x
      rw [h2] at h1
      have hnew : Lined w xs (j + 1) (wr.setCell ⟨w.heap.size + 1, j, none⟩ (u8v x)) := ⟨h1, gb_new HR.out.2.1 (gb_setCell _ _ _ _) (Nat.le_succ _), ((gb_setCell wr (w.heap.size + 1) j (u8v x)).block _ (lt_of_block HR.out.2.2) (by simp)).trans HR.out.2.2⟩
      have HNEW := hid hnew
      clear hpl hy h2 h1 hnew hj2 hx2 hx hxl HR
      unfold u8v at *
      go_wp2
      go_roundw
      case rel => exact ⟨j + 1, by omega, by go_num, HNEW⟩
      case measure => simp [RowKit.intOf]; omega
    · obtain rfl : j = 16 := by omega
      have hrow := HR.out.1
      rw [List.take_of_length_le (by rw [HL.out]; omega)] at hrow
      have e : putAt (List.replicate 16 0) 0 xs = xs := by unfold putAt; simp [HL.out]
      rw [e] at hrow
      have HB := hid (hrow.whole HL.out)
      have hold := HR.out.2.2
      unfold arr0 at hold
      have HO := hid hold
      have HS := hid ((bcells_size xs).trans HL.out)
      clear hrow e hold
      go_wp2_with (first | (refine wpList_load_row rfl 46 _ rfl (w.heap.size + 1) rfl 46 _ (0, 0) _ HB.out Try.underlying46 rfl (by rw [HS.out]; kernel_rfl) ?_) | (refine wpList_store_row rfl 46 _ _ rfl w.heap.size _ rfl rfl 46 _ HO.out (by rw [HS.out]; kernel_rfl) (by rw [HS.out]; rfl) (bcells_one xs) ?_))
      refine bodyPost_ret (v := arr xs) ?_ rfl ⟨rfl, ?_⟩
      · exact results_cell_row Try.results24 _ _ w.heap.size _ _ _ _ rfl (setRow_heap wr w.heap.size _ (bcells xs) _ _ HO.out) Try.underlying46 rfl (by rw [HS.out]; kernel_rfl)
      · exact gb_new HR.out.2.1 (g := w.heap.size) ⟨rfl, rfl, rfl, by simp, fun k _ hn => setRow_other wr _ k _ (fun e => hn (by rw [e]))⟩ (Nat.le_refl _)
end Go.Proofs.Ytcibjhdkjkhhhaa
