/-
  For the statements of layer 2: the walk of 'ImageReads'. Conditions: those that each theorem names.
-/
import Derived.Test.YtcibjhdkjkhhhaaImgK
import Derived.Deep.RegionHeld3
namespace Go.Proofs.Ytcibjhdkjkhhhaa
open Go.RowKit Go.Lib

/-- A narrower class of worlds serves. -/
theorem wpAnyH_mono {P : Program} {ops : Array Oper} {Q : Exit → Act → World → Prop} {md : Region.Mode} {S0 S1 : World → Prop} (h : ∀ w, S1 w → S0 w) : ∀ (fuel : Nat) (listed : Array Bool) (a : Act) (w : World), wpAnyH P md ops Q S1 fuel listed a w → wpAnyH P md ops Q S0 fuel listed a w
  | 0, _, _, _, hh => hh
  | fuel + 1, _, _, _, hh => ⟨hh.1, fun i hi => wpOp_mono (fun a' w' h' => ⟨h w' h'.1, wpAnyH_mono h fuel _ a' w' h'.2⟩) (hh.2 i hi)⟩
/-- An access that is not refused. -/
theorem refused_ok {n x : Nat} {wd : Int} (h : refused n x wd = 0) (hn : n % 16 = 0) : ∃ d : Nat, wd = d ∧ (d = 1 ∨ d = 2 ∨ d = 4) ∧ x % d = 0 ∧ x + d ≤ n := by
  unfold refused at h
  by_cases hw : wd ≠ 1 ∧ wd ≠ 2 ∧ wd ≠ 4
  · rw [if_pos hw] at h; omega
  · rw [if_neg hw] at h
    obtain ⟨d, rfl⟩ : ∃ d : Nat, wd = d := ⟨wd.toNat, by omega⟩
    have hd : d = 1 ∨ d = 2 ∨ d = 4 := by omega
    rw [Int.toNat_natCast] at h
    by_cases hm : x % d = 0
    · rw [if_neg (by omega)] at h
      by_cases hl : n ≤ x
      · rw [if_pos hl] at h; omega
      · refine ⟨d, rfl, hd, hm, ?_⟩
        rcases hd with rfl | rfl | rfl <;> omega
    · rw [if_pos hm] at h; omega

theorem reads_big {b : List UInt8} (a : Option Addr) (c : Nat) (wide : Int) (x wd v : Int) (w : World) (hb : 10000 < b.length) (hm : b.length ≤ maxLen) : Calls Try.prog 6 #[.slice a b.length c, .int .i64 wide, .agg #[.int .u32 x, .int .i64 wd, .int .u32 v]] w (Ok w) := by
  unfold maxLen at hm
  go_enter Try.func6, Try.ntmps6
  go_wp2_with (go_at_call 12; refine (works_any _).mono ?_; rintro e w2 ⟨rfl, g2⟩)
  go_ret
  exact ⟨rfl, gb_trans (gb_alloc _ _ _) g2⟩
set_option maxHeartbeats 4000000 in
theorem reads_walk {b : List UInt8} (a : Option Addr) (c : Nat) (wide : Int) (x : Nat) (wd v : Int) (hx : x < 4294967296) (v0 : 0 ≤ v) (v1 : v < 4294967296) (w : World) (hs : Src w a b) (hb : b.length ≤ 10000) : Calls Try.prog 6 #[.slice a b.length c, .int .i64 wide, .agg #[.int .u32 (x : Int), .int .i64 wd, .int .u32 v]] w (Ok w) := by
  have hs' := hs.kept (gb_alloc w (.cells #[.int .u32 (x : Int), .int .i64 wd, .int .u32 v] 40) none)
  have HS := hid hs'; clear hs hs'
  go_enter Try.func6, Try.ntmps6
  go_wp2_with fail
  refine (sized_any _ _ _ _ HS.out hb).mono ?_; rintro e w1 ⟨l, g, rfl, hr, hsz, hg, hgb⟩
  have hlen := szB_le hsz
  have HR := hid hr
  have HZ := hid hsz
  have HG := hid hgb
  have hglt := hr.lt
  have hwlt := hgb.size
  clear hr hsz hgb
  go_wp2_with fail
  refine (of_ok _ _ _ HZ.out HR.out.src).mono ?_; rintro e w2 ⟨rfl, hi, hgb⟩
  have HI := hid hi
  have HR2 := hid (HR.out.grown hgb (by simp))
  have HG2 := hid (gb_trans HG.out hgb)
  clear hi hgb HR HG
  go_wp2_with fail
  refine (num_any _ _).mono ?_; rintro e w' ⟨rfl, rfl⟩
  have c0 : w2.cell? ⟨w.heap.size, 0, none⟩ = some (.int .u32 (x : Int)) := HG2.out.cell (by simp) (by simp)
  have c1 : w2.cell? ⟨w.heap.size, 1, none⟩ = some (.int .i64 wd) := HG2.out.cell (by simp) (by simp)
  have c2 : w2.cell? ⟨w.heap.size, 2, none⟩ = some (.int .u32 v) := HG2.out.cell (by simp) (by simp)
  go_wp2_with fail
  refine (rrefused_any _ _ _ _ _ _ hx).mono ?_; rintro e w' ⟨rfl, rfl⟩
  by_cases hrf : refused l.length x wd = 0
  · obtain ⟨d, rfl, hd, hmod, hle⟩ := refused_ok hrf hlen.2.2
    have hrd := read_ok x d w2 HI.out hd hmod hle (by omega)
    have HRF := hid hrf; clear hrf
    generalize hX : leV ((l.drop x).take d) = X at *
    have HX := hid hX; clear hX
    have HRD := hid hrd; clear hrd
    rw [HRF.out]
    go_wp2_with fail
    refine HRD.out.mono ?_; rintro e w3 ⟨rfl, g3⟩
    have HG3 := hid (gb_trans HG2.out g3)
    have HI3 := hid (HI.out.grown g3 (by simp) (by simp))
    have HR3 := hid (HR2.out.grown g3 (by simp))
    clear c0 c1 c2
    have c0 : w3.cell? ⟨w.heap.size, 0, none⟩ = some (.int .u32 (x : Int)) := HG3.out.cell (by simp) (by simp)
    have c1 : w3.cell? ⟨w.heap.size, 1, none⟩ = some (.int .i64 (d : Int)) := HG3.out.cell (by simp) (by simp)
    have c2 : w3.cell? ⟨w.heap.size, 2, none⟩ = some (.int .u32 v) := HG3.out.cell (by simp) (by simp)
    clear g3
    have hwr := write_ok x d v w3 HI3.out hd hmod hle (by omega)
    have HWR := hid hwr; clear hwr
    go_wp2_with fail
    refine HWR.out.mono ?_; rintro e w4 ⟨rfl, hi4, g4⟩
    have HG4 := hid (gb_new HG3.out g4 hwlt)
    have HI4 := hid hi4
    have HR4 := hid (HR3.out.grown g4 (by simp; omega))
    clear c0 c1 c2 g4 hi4
    go_wp2_with (go_at_call 11; refine (num_any _ _).mono ?_; rintro e w' ⟨rfl, rfl⟩)
    have k0 : ∀ W, w4.grownBy W none → W.cell? ⟨w.heap.size, 0, none⟩ = some (.int .u32 (x : Int)) := fun W h => (gb_trans HG4.out h).cell (by simp) (by simp)
    have k1 : ∀ W, w4.grownBy W none → W.cell? ⟨w.heap.size, 1, none⟩ = some (.int .i64 (d : Int)) := fun W h => (gb_trans HG4.out h).cell (by simp) (by simp)
    have k2 : ∀ W, w4.grownBy W none → W.cell? ⟨w.heap.size, 2, none⟩ = some (.int .u32 v) := fun W h => (gb_trans HG4.out h).cell (by simp) (by simp)
    have hpl := putAt_length l x (wrV v d) (by rw [wrV_length]; exact hle)
    have HP := hid hpl; clear hpl
    have hbytes := fun (W : World) (h : w4.grownBy W none) => bytes_img W (HI4.out.grown h (by simp) (by simp)) (by rw [HP.out]; omega)
    rw [HP.out] at hbytes
    have HBY := hid hbytes; clear hbytes
    refine wp_region_noPanic ?_
    refine wp_region_held_drew (S := fun W => World.grownBy w4 W none) (by kernel_rfl) (gb_drew _ _) (fun hHeld => ?_)
    refine wpAnyH_take (i := 0) (oi := ?_) (v := ?_) ?_ (by kernel_rfl) (by kernel_rfl) (by kernel_rfl) (fun _ _ _ h => h) ?_ (by assumption) ?_
    rotate_left 2
    · simp only [List.getElem?_toArray, List.getElem?_cons_zero]; exact rfl
    · refine Or.inl ⟨by rfl, ?_⟩; intro W hW; go_simp; try (with_reducible rfl)
    try simp only [Act.put, List.setIfInBounds_toArray, List.set_cons_zero, List.set_cons_succ]
    refine wpAnyH_take (i := 1) (oi := ?_) (v := ?_) ?_ (by kernel_rfl) (by kernel_rfl) (by kernel_rfl) (fun _ _ _ h => h) ?_ (by assumption) ?_
    rotate_left 2
    · simp only [List.getElem?_toArray, List.getElem?_cons_succ, List.getElem?_cons_zero]; exact rfl
    · refine Or.inl ⟨by rfl, ?_⟩; intro W hW; go_simp; try (with_reducible rfl)
    try simp only [Act.put, List.setIfInBounds_toArray, List.set_cons_zero, List.set_cons_succ]
    refine wpAnyH_take (i := 2) (oi := ?_) (v := ?_) ?_ (by kernel_rfl) (by kernel_rfl) (by kernel_rfl) (fun _ _ _ h => h) ?_ (by assumption) ?_
    rotate_left 2
    · simp only [List.getElem?_toArray, List.getElem?_cons_succ, List.getElem?_cons_zero]; exact rfl
    · refine Or.inl ⟨by rfl, ?_⟩; intro W hW; go_simp; try (with_reducible rfl)
    try simp only [Act.put, List.setIfInBounds_toArray, List.set_cons_zero, List.set_cons_succ]
    refine wpAnyH_take (i := 3) (oi := ?_) (v := ?_) ?_ (by kernel_rfl) (by kernel_rfl) (by kernel_rfl) (fun _ _ _ h => h) ?_ (by assumption) ?_
    rotate_left 2
    · simp only [List.getElem?_toArray, List.getElem?_cons_succ, List.getElem?_cons_zero]; exact rfl
    · refine Or.inl ⟨by rfl, ?_⟩; intro W hW; go_simp; try (with_reducible rfl)
    try simp only [Act.put, List.setIfInBounds_toArray, List.set_cons_zero, List.set_cons_succ]
    refine wpAnyH_take (i := 4) (oi := ?_) (v := ?_) ?_ (by kernel_rfl) (by kernel_rfl) (by kernel_rfl) (fun _ _ _ h => h) ?_ (by assumption) ?_
    rotate_left 2
    · simp only [List.getElem?_toArray, List.getElem?_cons_succ, List.getElem?_cons_zero]; exact rfl
    · refine Or.inl ⟨by rfl, ?_⟩; intro W hW; go_simp; try (with_reducible rfl)
    try simp only [Act.put, List.setIfInBounds_toArray, List.set_cons_zero, List.set_cons_succ]
    refine wpAnyH_take (i := 5) (oi := ?_) (v := ?_) ?_ (by kernel_rfl) (by kernel_rfl) (by kernel_rfl) (fun _ _ _ h => h) ?_ (by assumption) ?_
    rotate_left 2
    · simp only [List.getElem?_toArray, List.getElem?_cons_succ, List.getElem?_cons_zero]; exact rfl
    · refine Or.inl ⟨by rfl, ?_⟩; intro W hW; go_simp; try (with_reducible rfl)
    try simp only [Act.put, List.setIfInBounds_toArray, List.set_cons_zero, List.set_cons_succ]
    refine wpAnyH_ready (rs := [6]) (by kernel_rfl) (by simp) ?_
    refine AllReadyH.cons (o := ?_) ?_ (fun K hK => ?_) AllReadyH.nil
    rotate_left 1
    · simp only [List.getElem?_toArray, List.getElem?_cons_succ, List.getElem?_cons_zero]; exact rfl
    go_simp
    refine (rread_any g l.length l.length _ x d _ (HR4.out.grown (gb_drew _ none) (by simp)) rfl (by omega) hle (by omega)).mono ?_; rintro e w' ⟨rfl, rfl⟩
    rw [HX.out]
    refine hK.out _ _ (hHeld) (fun hHeld => ?_)
    clear hK K
    try simp only [Act.put, List.setIfInBounds_toArray, List.set_cons_zero, List.set_cons_succ]
    refine wpAnyH_take (i := 7) (oi := ?_) (v := ?_) ?_ (by kernel_rfl) (by kernel_rfl) (by kernel_rfl) (fun _ _ _ h => h) ?_ (by assumption) ?_
    rotate_left 2
    · simp only [List.getElem?_toArray, List.getElem?_cons_succ, List.getElem?_cons_zero]; exact rfl
    · refine Or.inl ⟨by rfl, ?_⟩; intro W hW; go_simp; try (with_reducible rfl)
    try simp only [Act.put, List.setIfInBounds_toArray, List.set_cons_zero, List.set_cons_succ]
    refine wpAnyH_take (i := 8) (oi := ?_) (v := ?_) ?_ (by kernel_rfl) (by kernel_rfl) (by kernel_rfl) (fun _ _ _ h => h) ?_ (by assumption) ?_
    rotate_left 2
    · simp only [List.getElem?_toArray, List.getElem?_cons_succ, List.getElem?_cons_zero]; exact rfl
    · refine Or.inl ⟨by rfl, ?_⟩; intro W hW; go_simp; try (with_reducible rfl)
    try simp only [Act.put, List.setIfInBounds_toArray, List.set_cons_zero, List.set_cons_succ]
    refine wpAnyH_take (i := 9) (oi := ?_) (v := ?_) ?_ (by kernel_rfl) (by kernel_rfl) (by kernel_rfl) (fun _ _ _ h => h) ?_ (by assumption) ?_
    rotate_left 2
    · simp only [List.getElem?_toArray, List.getElem?_cons_succ, List.getElem?_cons_zero]; exact rfl
    · refine Or.inl ⟨by rfl, ?_⟩; intro W hW; go_simp; try (with_reducible rfl)
    try simp only [Act.put, List.setIfInBounds_toArray, List.set_cons_zero, List.set_cons_succ]
    refine wpAnyH_take (i := 12) (oi := ?_) (v := ?_) ?_ (by kernel_rfl) (by kernel_rfl) (by kernel_rfl) (fun _ _ _ h => h) ?_ (by assumption) ?_
    rotate_left 2
    · simp only [List.getElem?_toArray, List.getElem?_cons_succ, List.getElem?_cons_zero]; exact rfl
    · refine Or.inl ⟨by rfl, ?_⟩; intro W hW; go_simp; try (with_reducible rfl)
    try simp only [Act.put, List.setIfInBounds_toArray, List.set_cons_zero, List.set_cons_succ]
    refine wpAnyH_take (i := 13) (oi := ?_) (v := ?_) ?_ (by kernel_rfl) (by kernel_rfl) (by kernel_rfl) (fun _ _ _ h => h) ?_ (by assumption) ?_
    rotate_left 2
    · simp only [List.getElem?_toArray, List.getElem?_cons_succ, List.getElem?_cons_zero]; exact rfl
    · refine Or.inl ⟨by rfl, ?_⟩; intro W hW; go_simp; try (with_reducible rfl)
    try simp only [Act.put, List.setIfInBounds_toArray, List.set_cons_zero, List.set_cons_succ]
    refine wpAnyH_take (i := 14) (oi := ?_) (v := ?_) ?_ (by kernel_rfl) (by kernel_rfl) (by kernel_rfl) (fun _ _ _ h => h) ?_ (by assumption) ?_
    rotate_left 2
    · simp only [List.getElem?_toArray, List.getElem?_cons_succ, List.getElem?_cons_zero]; exact rfl
    · refine Or.inl ⟨by rfl, ?_⟩; intro W hW; go_simp; try (with_reducible rfl)
    try simp only [Act.put, List.setIfInBounds_toArray, List.set_cons_zero, List.set_cons_succ]
    refine wpAnyH_take (i := 15) (oi := ?_) (v := ?_) ?_ (by kernel_rfl) (by kernel_rfl) (by kernel_rfl) (fun _ _ _ h => h) ?_ (by assumption) ?_
    rotate_left 2
    · simp only [List.getElem?_toArray, List.getElem?_cons_succ, List.getElem?_cons_zero]; exact rfl
    · refine Or.inl ⟨by rfl, ?_⟩; intro W hW; go_simp; try (with_reducible rfl)
    try simp only [Act.put, List.setIfInBounds_toArray, List.set_cons_zero, List.set_cons_succ]
    refine wpAnyH_take (i := 16) (oi := ?_) (v := ?_) ?_ (by kernel_rfl) (by kernel_rfl) (by kernel_rfl) (fun _ _ _ h => h) ?_ (by assumption) ?_
    rotate_left 2
    · simp only [List.getElem?_toArray, List.getElem?_cons_succ, List.getElem?_cons_zero]; exact rfl
    · refine Or.inl ⟨by rfl, ?_⟩; intro W hW; go_simp; try (with_reducible rfl)
    try simp only [Act.put, List.setIfInBounds_toArray, List.set_cons_zero, List.set_cons_succ]
    refine wpAnyH_take (i := 17) (oi := ?_) (v := ?_) ?_ (by kernel_rfl) (by kernel_rfl) (by kernel_rfl) (fun _ _ _ h => h) ?_ (by assumption) ?_
    rotate_left 2
    · simp only [List.getElem?_toArray, List.getElem?_cons_succ, List.getElem?_cons_zero]; exact rfl
    · refine Or.inl ⟨by rfl, ?_⟩; intro W hW; go_simp; try (with_reducible rfl)
    try simp only [Act.put, List.setIfInBounds_toArray, List.set_cons_zero, List.set_cons_succ]
    refine wpAnyH_take (i := 18) (oi := ?_) (v := ?_) ?_ (by kernel_rfl) (by kernel_rfl) (by kernel_rfl) (fun _ _ _ h => h) ?_ (by assumption) ?_
    rotate_left 2
    · simp only [List.getElem?_toArray, List.getElem?_cons_succ, List.getElem?_cons_zero]; exact rfl
    · refine Or.inl ⟨by rfl, ?_⟩; intro W hW; go_simp; try (with_reducible rfl)
    try simp only [Act.put, List.setIfInBounds_toArray, List.set_cons_zero, List.set_cons_succ]
    refine wpAnyH_ready (rs := [10]) (by kernel_rfl) (by simp) ?_
    refine AllReadyH.cons (o := ?_) ?_ (fun K hK => ?_) AllReadyH.nil
    rotate_left 1
    · simp only [List.getElem?_toArray, List.getElem?_cons_succ, List.getElem?_cons_zero]; exact rfl
    go_simp
    refine (HBY.out _ hHeld).mono ?_; rintro e w5 ⟨g5, n5, rfl, hr5, hg5, gb5⟩
    have HG5 := hid (gb_trans hHeld gb5)
    have HR5 := hid (HR4.out.grown HG5.out (by simp))
    refine hK.out _ _ (HG5.out) (fun hHeld => ?_)
    clear hK K
    try simp only [Act.put, List.setIfInBounds_toArray, List.set_cons_zero, List.set_cons_succ]
    refine wpAnyH_mono (S1 := fun W => World.grownBy w5 W none) (fun W h => gb_trans HG5.out h) _ _ _ _ ?_
    clear hHeld
    have hHeld : World.grownBy w5 w5 none := gb_refl _ _
    have kc5 : ∀ W, w5.grownBy W none → Sem.run Try.prog (convert 30 9 (.slice (some ⟨g5, 0, none⟩) l.length n5)) W = .ok (.string ⟨(putAt l x (wrV v d)).toArray⟩) W := fun W h => by have := conv_src (hr5.grown h (by simp)).src n5; rw [HP.out] at this; exact this
    clear hr5 hg5 gb5 k0 k1 k2
    refine wpAnyH_take (i := 11) (oi := ?_) (v := ?_) ?_ (by kernel_rfl) (by kernel_rfl) (by kernel_rfl) (fun _ _ _ h => h) ?_ (by assumption) ?_
    rotate_left 2
    · simp only [List.getElem?_toArray, List.getElem?_cons_succ, List.getElem?_cons_zero]; exact rfl
    · refine Or.inl ⟨by rfl, ?_⟩; intro W hW; go_simp; try (with_reducible rfl)
    try simp only [Act.put, List.setIfInBounds_toArray, List.set_cons_zero, List.set_cons_succ]
    refine wpAnyH_ready (rs := [19]) (by kernel_rfl) (by simp) ?_
    refine AllReadyH.cons (o := ?_) ?_ (fun K hK => ?_) AllReadyH.nil
    rotate_left 1
    · simp only [List.getElem?_toArray, List.getElem?_cons_succ, List.getElem?_cons_zero]; exact rfl
    go_simp
    refine (rwrite_any g l.length l.length _ x d v _ HR5.out rfl (by omega) hle (by omega) v0 v1).mono ?_; rintro e w6 ⟨g6, n6, rfl, hr6, hg6, gb6⟩
    rw [HP.out]
    have HG6 := hid gb6
    refine hK.out _ _ (HG6.out) (fun hHeld => ?_)
    clear hK K
    try simp only [Act.put, List.setIfInBounds_toArray, List.set_cons_zero, List.set_cons_succ]
    refine wpAnyH_mono (S1 := fun W => World.grownBy w6 W none) (fun W h => gb_trans HG6.out h) _ _ _ _ ?_
    clear hHeld
    have hHeld : World.grownBy w6 w6 none := gb_refl _ _
    have kc6 : ∀ W, w6.grownBy W none → Sem.run Try.prog (convert 30 9 (.slice (some ⟨g6, 0, none⟩) l.length n6)) W = .ok (.string ⟨(putAt l x (wrV v d)).toArray⟩) W := fun W h => by have := conv_src (hr6.grown h (by simp)).src n6; rw [HP.out] at this; exact this
    clear hr6 hg6 gb6 kc5
    refine wpAnyH_take (i := 20) (oi := ?_) (v := ?_) ?_ (by kernel_rfl) (by kernel_rfl) (by kernel_rfl) (fun _ _ _ h => h) ?_ (by assumption) ?_
    rotate_left 2
    · simp only [List.getElem?_toArray, List.getElem?_cons_succ, List.getElem?_cons_zero]; exact rfl
    · refine Or.inl ⟨by rfl, ?_⟩; intro W hW; go_simp; try (with_reducible rfl)
    try simp only [Act.put, List.setIfInBounds_toArray, List.set_cons_zero, List.set_cons_succ]
    refine wpAnyH_take (i := 21) (oi := ?_) (v := ?_) ?_ (by kernel_rfl) (by kernel_rfl) (by kernel_rfl) (fun _ _ _ h => h) ?_ (by assumption) ?_
    rotate_left 2
    · simp only [List.getElem?_toArray, List.getElem?_cons_succ, List.getElem?_cons_zero]; exact rfl
    · refine Or.inl ⟨by rfl, ?_⟩; intro W hW; go_simp; try (with_reducible rfl)
    try simp only [Act.put, List.setIfInBounds_toArray, List.set_cons_zero, List.set_cons_succ]
    refine wpAnyH_take (i := 22) (oi := ?_) (v := ?_) ?_ (by kernel_rfl) (by kernel_rfl) (by kernel_rfl) (fun _ _ _ h => h) ?_ (by assumption) ?_
    rotate_left 2
    · simp only [List.getElem?_toArray, List.getElem?_cons_succ, List.getElem?_cons_zero]; exact rfl
    · refine Or.inl ⟨by rfl, ?_⟩; intro W hW; go_simp; try (with_reducible rfl)
    try simp only [Act.put, List.setIfInBounds_toArray, List.set_cons_zero, List.set_cons_succ]
    refine wpAnyH_take (i := 23) (oi := ?_) (v := ?_) ?_ (by kernel_rfl) (by kernel_rfl) (by kernel_rfl) (fun _ _ _ h => h) ?_ (by assumption) ?_
    rotate_left 2
    · simp only [List.getElem?_toArray, List.getElem?_cons_succ, List.getElem?_cons_zero]; exact rfl
    · refine Or.inl ⟨by rfl, ?_⟩; intro W hW; go_simp; try (with_reducible rfl)
    try simp only [Act.put, List.setIfInBounds_toArray, List.set_cons_zero, List.set_cons_succ]
    refine wpAnyH_ready (rs := [24]) (by kernel_rfl) (by simp) ?_
    refine AllReadyH.cons (o := ?_) ?_ (fun K hK => ?_) AllReadyH.nil
    rotate_left 1
    · simp only [List.getElem?_toArray, List.getElem?_cons_succ, List.getElem?_cons_zero]; exact rfl
    go_simp
    refine (works_any _).mono ?_; rintro e w7 ⟨rfl, gb7⟩
    refine hK.out _ _ (gb7) (fun hHeld => ?_)
    clear hK K
    try simp only [Act.put, List.setIfInBounds_toArray, List.set_cons_zero, List.set_cons_succ]
    refine wpAnyH_take (i := 25) (oi := ?_) (v := ?_) ?_ (by kernel_rfl) (by kernel_rfl) (by kernel_rfl) (fun _ _ _ h => h) ?_ (by assumption) ?_
    rotate_left 2
    · simp only [List.getElem?_toArray, List.getElem?_cons_succ, List.getElem?_cons_zero]; exact rfl
    · refine Or.inl ⟨by rfl, ?_⟩; intro W hW; go_simp; try (with_reducible rfl)
    try simp only [Act.put, List.setIfInBounds_toArray, List.set_cons_zero, List.set_cons_succ]
    refine wpAnyH_take (i := 26) (oi := ?_) (v := ?_) ?_ (by kernel_rfl) (by kernel_rfl) (by kernel_rfl) (fun _ _ _ h => h) ?_ (by assumption) ?_
    rotate_left 2
    · simp only [List.getElem?_toArray, List.getElem?_cons_succ, List.getElem?_cons_zero]; exact rfl
    · refine Or.inl ⟨by rfl, ?_⟩; intro W hW; go_simp; try (with_reducible rfl)
    try simp only [Act.put, List.setIfInBounds_toArray, List.set_cons_zero, List.set_cons_succ]
    refine wpAnyH_done (by kernel_rfl) ?_ _
    refine NoPanic.normal ?_
    go_wp2
    go_ret
    exact ⟨rfl, gb_trans (gb_alloc _ _ _) (gb_trans HG4.out (gb_trans HG5.out (gb_trans HG6.out gb7)))⟩
  · have hrd := read_no x wd w2 HI.out (by omega) hrf
    have hne : (refused l.length x wd != 0) = true := bne_iff_ne.2 hrf
    have HF := hid hrf; clear hrf
    generalize hR : refused l.length x wd = R at *
    have HRD := hid hrd
    have HRR := hid hR
    clear hrd hR
    go_wp2_with fail
    refine HRD.out.mono ?_; rintro e w3 ⟨rfl, g3⟩
    have HG3 := hid (gb_trans HG2.out g3)
    have HI3 := hid (HI.out.grown g3 (by simp) (by simp))
    have HR3 := hid (HR2.out.grown g3 (by simp))
    clear c0 c1 c2
    have c0 : w3.cell? ⟨w.heap.size, 0, none⟩ = some (.int .u32 (x : Int)) := HG3.out.cell (by simp) (by simp)
    have c1 : w3.cell? ⟨w.heap.size, 1, none⟩ = some (.int .i64 wd) := HG3.out.cell (by simp) (by simp)
    have c2 : w3.cell? ⟨w.heap.size, 2, none⟩ = some (.int .u32 v) := HG3.out.cell (by simp) (by simp)
    clear g3
    have hwr := write_no x wd v w3 HI3.out (by omega) (by rw [HRR.out]; exact HF.out)
    rw [HRR.out] at hwr
    have HWR := hid hwr; clear hwr
    go_wp2_with fail
    refine HWR.out.mono ?_; rintro e w4 ⟨rfl, g4⟩
    have HG4 := hid (gb_trans HG3.out g4)
    have HI4 := hid (HI3.out.grown g4 (by simp) (by simp))
    have HR4 := hid (HR3.out.grown g4 (by simp))
    clear c0 c1 c2 g4
    go_wp2_with (go_at_call 11; refine (num_any _ _).mono ?_; rintro e w' ⟨rfl, rfl⟩)
    have kw : ∀ W, w4.grownBy W none → Sem.run Try.prog (convert 30 9 (.slice (some ⟨g, 0, none⟩) l.length l.length)) W = .ok (.string ⟨(l).toArray⟩) W := fun W h => conv_src (HR4.out.grown h (by simp)).src l.length
    have HBY := hid (fun (W : World) (h : w4.grownBy W none) => bytes_img W (HI4.out.grown h (by simp) (by simp)) (by omega))
    refine wp_region_noPanic ?_
    refine wp_region_held_drew (S := fun W => World.grownBy w4 W none) (by kernel_rfl) (gb_drew _ _) (fun hHeld => ?_)
    refine wpAnyH_take (i := 0) (oi := ?_) (v := ?_) ?_ (by kernel_rfl) (by kernel_rfl) (by kernel_rfl) (fun _ _ _ h => h) ?_ (by assumption) ?_
    rotate_left 2
    · simp only [List.getElem?_toArray, List.getElem?_cons_zero]; exact rfl
    · refine Or.inl ⟨by rfl, ?_⟩; intro W hW; go_simp; try (with_reducible rfl)
    try simp only [Act.put, List.setIfInBounds_toArray, List.set_cons_zero, List.set_cons_succ]
    refine wpAnyH_take (i := 1) (oi := ?_) (v := ?_) ?_ (by kernel_rfl) (by kernel_rfl) (by kernel_rfl) (fun _ _ _ h => h) ?_ (by assumption) ?_
    rotate_left 2
    · simp only [List.getElem?_toArray, List.getElem?_cons_succ, List.getElem?_cons_zero]; exact rfl
    · refine Or.inl ⟨by rfl, ?_⟩; intro W hW; go_simp; try (with_reducible rfl)
    try simp only [Act.put, List.setIfInBounds_toArray, List.set_cons_zero, List.set_cons_succ]
    refine wpAnyH_take (i := 2) (oi := ?_) (v := ?_) ?_ (by kernel_rfl) (by kernel_rfl) (by kernel_rfl) (fun _ _ _ h => h) ?_ (by assumption) ?_
    rotate_left 2
    · simp only [List.getElem?_toArray, List.getElem?_cons_succ, List.getElem?_cons_zero]; exact rfl
    · refine Or.inl ⟨by rfl, ?_⟩; intro W hW; go_simp; try (with_reducible rfl)
    try simp only [Act.put, List.setIfInBounds_toArray, List.set_cons_zero, List.set_cons_succ]
    refine wpAnyH_take (i := 3) (oi := ?_) (v := ?_) ?_ (by kernel_rfl) (by kernel_rfl) (by kernel_rfl) (fun _ _ _ h => h) ?_ (by assumption) ?_
    rotate_left 2
    · simp only [List.getElem?_toArray, List.getElem?_cons_succ, List.getElem?_cons_zero]; exact rfl
    · refine Or.inl ⟨by rfl, ?_⟩; intro W hW; go_simp; try (with_reducible rfl)
    try simp only [Act.put, List.setIfInBounds_toArray, List.set_cons_zero, List.set_cons_succ]
    refine wpAnyH_take (i := 6) (oi := ?_) (v := ?_) ?_ (by kernel_rfl) (by kernel_rfl) (by kernel_rfl) (fun _ _ _ h => h) ?_ (by assumption) ?_
    rotate_left 2
    · simp only [List.getElem?_toArray, List.getElem?_cons_succ, List.getElem?_cons_zero]; exact rfl
    · refine Or.inl ⟨by rfl, ?_⟩; intro W hW; go_simp; try (with_reducible rfl)
    try simp only [Act.put, List.setIfInBounds_toArray, List.set_cons_zero, List.set_cons_succ]
    refine wpAnyH_take (i := 7) (oi := ?_) (v := ?_) ?_ (by kernel_rfl) (by kernel_rfl) (by kernel_rfl) (fun _ _ _ h => h) ?_ (by assumption) ?_
    rotate_left 2
    · simp only [List.getElem?_toArray, List.getElem?_cons_succ, List.getElem?_cons_zero]; exact rfl
    · refine Or.inl ⟨by rfl, ?_⟩; intro W hW; go_simp; try (with_reducible rfl)
    try simp only [Act.put, List.setIfInBounds_toArray, List.set_cons_zero, List.set_cons_succ]
    refine wpAnyH_ready (rs := [4]) (by kernel_rfl) (by simp) ?_
    refine AllReadyH.cons (o := ?_) ?_ (fun K hK => ?_) AllReadyH.nil
    rotate_left 1
    · simp only [List.getElem?_toArray, List.getElem?_cons_succ, List.getElem?_cons_zero]; exact rfl
    go_simp
    refine (HBY.out _ hHeld).mono ?_; rintro e w5 ⟨g5, n5, rfl, hr5, hg5, gb5⟩
    have HG5 := hid (gb_trans hHeld gb5)
    refine hK.out _ _ (HG5.out) (fun hHeld => ?_)
    clear hK K
    try simp only [Act.put, List.setIfInBounds_toArray, List.set_cons_zero, List.set_cons_succ]
    refine wpAnyH_mono (S1 := fun W => World.grownBy w5 W none) (fun W h => gb_trans HG5.out h) _ _ _ _ ?_
    clear hHeld
    have hHeld : World.grownBy w5 w5 none := gb_refl _ _
    have kc5 : ∀ W, w5.grownBy W none → Sem.run Try.prog (convert 30 9 (.slice (some ⟨g5, 0, none⟩) l.length n5)) W = .ok (.string ⟨(l).toArray⟩) W := fun W h => conv_src (hr5.grown h (by simp)).src n5
    clear hr5 hg5 gb5 kw
    refine wpAnyH_take (i := 5) (oi := ?_) (v := ?_) ?_ (by kernel_rfl) (by kernel_rfl) (by kernel_rfl) (fun _ _ _ h => h) ?_ (by assumption) ?_
    rotate_left 2
    · simp only [List.getElem?_toArray, List.getElem?_cons_succ, List.getElem?_cons_zero]; exact rfl
    · refine Or.inl ⟨by rfl, ?_⟩; intro W hW; go_simp; try (with_reducible rfl)
    try simp only [Act.put, List.setIfInBounds_toArray, List.set_cons_zero, List.set_cons_succ]
    refine wpAnyH_take (i := 8) (oi := ?_) (v := ?_) ?_ (by kernel_rfl) (by kernel_rfl) (by kernel_rfl) (fun _ _ _ h => h) ?_ (by assumption) ?_
    rotate_left 2
    · simp only [List.getElem?_toArray, List.getElem?_cons_succ, List.getElem?_cons_zero]; exact rfl
    · refine Or.inl ⟨by rfl, ?_⟩; intro W hW; go_simp; try (with_reducible rfl)
    try simp only [Act.put, List.setIfInBounds_toArray, List.set_cons_zero, List.set_cons_succ]
    refine wpAnyH_take (i := 9) (oi := ?_) (v := ?_) ?_ (by kernel_rfl) (by kernel_rfl) (by kernel_rfl) (fun _ _ _ h => h) ?_ (by assumption) ?_
    rotate_left 2
    · simp only [List.getElem?_toArray, List.getElem?_cons_succ, List.getElem?_cons_zero]; exact rfl
    · refine Or.inl ⟨by rfl, ?_⟩; intro W hW; go_simp; try (with_reducible rfl)
    try simp only [Act.put, List.setIfInBounds_toArray, List.set_cons_zero, List.set_cons_succ]
    refine wpAnyH_take (i := 10) (oi := ?_) (v := ?_) ?_ (by kernel_rfl) (by kernel_rfl) (by kernel_rfl) (fun _ _ _ h => h) ?_ (by assumption) ?_
    rotate_left 2
    · simp only [List.getElem?_toArray, List.getElem?_cons_succ, List.getElem?_cons_zero]; exact rfl
    · refine Or.inl ⟨by rfl, ?_⟩; intro W hW; go_simp; try (with_reducible rfl)
    try simp only [Act.put, List.setIfInBounds_toArray, List.set_cons_zero, List.set_cons_succ]
    refine wpAnyH_ready (rs := [11]) (by kernel_rfl) (by simp) ?_
    refine AllReadyH.cons (o := ?_) ?_ (fun K hK => ?_) AllReadyH.nil
    rotate_left 1
    · simp only [List.getElem?_toArray, List.getElem?_cons_succ, List.getElem?_cons_zero]; exact rfl
    go_simp
    refine (works_any _).mono ?_; rintro e w7 ⟨rfl, gb7⟩
    refine hK.out _ _ (gb7) (fun hHeld => ?_)
    clear hK K
    try simp only [Act.put, List.setIfInBounds_toArray, List.set_cons_zero, List.set_cons_succ]
    refine wpAnyH_take (i := 12) (oi := ?_) (v := ?_) ?_ (by kernel_rfl) (by kernel_rfl) (by kernel_rfl) (fun _ _ _ h => h) ?_ (by assumption) ?_
    rotate_left 2
    · simp only [List.getElem?_toArray, List.getElem?_cons_succ, List.getElem?_cons_zero]; exact rfl
    · refine Or.inl ⟨by rfl, ?_⟩; intro W hW; go_simp; try (with_reducible rfl)
    try simp only [Act.put, List.setIfInBounds_toArray, List.set_cons_zero, List.set_cons_succ]
    refine wpAnyH_take (i := 13) (oi := ?_) (v := ?_) ?_ (by kernel_rfl) (by kernel_rfl) (by kernel_rfl) (fun _ _ _ h => h) ?_ (by assumption) ?_
    rotate_left 2
    · simp only [List.getElem?_toArray, List.getElem?_cons_succ, List.getElem?_cons_zero]; exact rfl
    · refine Or.inl ⟨by rfl, ?_⟩; intro W hW; go_simp; try (with_reducible rfl)
    try simp only [Act.put, List.setIfInBounds_toArray, List.set_cons_zero, List.set_cons_succ]
    refine wpAnyH_done (by kernel_rfl) ?_ _
    refine NoPanic.normal ?_
    go_wp2
    go_ret
    exact ⟨rfl, gb_trans (gb_alloc _ _ _) (gb_trans HG4.out (gb_trans HG5.out gb7))⟩
end Go.Proofs.Ytcibjhdkjkhhhaa
