/-
  For the statements of layer 2: the walk of 'ImageLines'. Conditions: those that each theorem names.
-/
import Derived.Test.YtcibjhdkjkhhhaaImgM
import Derived.Stop.BytesEq
import Derived.Laws.Tables
namespace Go.Proofs.Ytcibjhdkjkhhhaa
open Go.RowKit Go.Lib

theorem arr_eql (xs ys : List UInt8) (hx : xs.length = 16) (hy : ys.length = 16) (w : World) : (binOp .eql 46 (.agg (bcells xs)) (.agg (bcells ys))).run Try.prog w = .ok (.bool (xs == ys)) w :=
  run_eql_bytes w 46 5 16 Try.underlying46 Try.underlying5 (fun w => by obtain ⟨i0, hi, hz0, hz1, hz2⟩ := info_parts info5; go_simp) xs ys hx hy
theorem put_new (w : World) (z : List UInt8) (hz : z.length = 16) : RowT 46 ((w.alloc arr0).setRow w.heap.size (bcells z)) w.heap.size 16 z ∧ w.grownBy ((w.alloc arr0).setRow w.heap.size (bcells z)) none :=
  ⟨⟨_, setRow_heap _ _ _ (bcells z) _ _ (by unfold arr0; exact heap_alloc_new w _), by rw [bcells_size]; exact hz, by omega, by unfold maxLen; omega, by show (z.map u8v).take z.length = _; rw [List.take_of_length_le (by simp)]⟩,
    gb_new (g := w.heap.size) (gb_alloc w arr0 none) ⟨rfl, rfl, rfl, by simp, fun k _ hn => setRow_other _ _ k _ (fun e => hn (by rw [e]))⟩ (Nat.le_refl _)⟩

theorem exec_load_arr {o : Oper} {a : Act} {W : World} (x : Operand) (ho : o.op = .load 46 x) (g : Nat) (hx : a.eval x = .pointer (some ⟨g, 0, none⟩)) (z : List UInt8) (hz : z.length = 16) (hg : W.heap[g]? = some (.cells (bcells z) 46 (0, 0))) : (execOp a.eval o).run Try.prog W = .ok (.value (.agg (bcells z))) W := by
  unfold execOp
  simp only [ho, hx, Instr.loadAt, Instr.sureAddr, Sem.run_bind, Sem.run_pure, Result.andThen_ok, run_loadVar_row W g 46 46 (bcells z) (0, 0) _ hg Try.underlying46 rfl (by rw [bcells_size, hz]; kernel_rfl)]

theorem exec_eql_arr {o : Oper} {a : Act} {W : World} (x y : Operand) (r : TypeId) (ho : o.op = .binOp .eql 46 x y r) (u v : List UInt8) (hx : a.eval x = .agg (bcells u)) (hy : a.eval y = .agg (bcells v)) (hu : u.length = 16) (hv : v.length = 16) : (execOp a.eval o).run Try.prog W = .ok (.value (.bool (u == v))) W := by
  have hg : Try.prog.eqGuardType Try.prog.depth 46 = false := by kernel_rfl
  unfold execOp
  simp only [ho, hx, hy, Sem.run_bind, Sem.run_pure, Result.andThen_ok, run_eqGuard_agg (hm := hg), arr_eql u v hu hv W]

/-- A line laid into a row, byte for byte. -/
def LR (w : World) (g k : Nat) (l : List UInt8) (wr : World) : Prop := Row wr g k l ∧ w.grownBy wr none
theorem LR.step {w wr : World} {g k a j : Nat} {l m : List UInt8} (h : LR w g k (putAt l a (m.take j)) wr) (hj : j < m.length) (ha : a + m.length ≤ l.length) (hg : w.heap.size ≤ g) :
    ∃ y : UInt8, m[j]? = some y ∧ (∃ o : UInt8, wr.cell? ⟨g, a + j, none⟩ = some (.int .u8 (o.toNat : Int))) ∧ wr.frozen? ⟨g, a + j, none⟩ = false ∧ LR w g k (putAt l a (m.take (j + 1))) (wr.setCell ⟨g, a + j, none⟩ (.int .u8 (y.toNat : Int))) := by
  obtain ⟨y, hy⟩ : ∃ y, m[j]? = some y := ⟨_, List.getElem?_eq_getElem hj⟩
  have htl : (m.take j).length = j := by simp; omega
  have hpl := putAt_length l a (m.take j) (by omega)
  obtain ⟨o, ho⟩ : ∃ o, (putAt l a (m.take j))[a + j]? = some o := ⟨_, List.getElem?_eq_getElem (by omega)⟩
  have h2 := putAt_snoc l a (m.take j) y (by omega)
  rw [htl] at h2
  have h1 := h.1.setCell (a + j) y
  rw [h2] at h1
  have e : m.take (j + 1) = m.take j ++ [y] := by rw [List.take_add_one, hy]; rfl
  exact ⟨y, hy, ⟨o, h.1.cell _ _ ho⟩, h.1.free _, by rw [e]; exact h1, gb_new h.2 (gb_setCell _ _ _ _) hg⟩

theorem lines_big {b : List UInt8} (a : Option Addr) (c : Nat) (wide : Int) (x : Nat) (m : List UInt8) (w : World) (hb : 10000 < b.length) (hm : b.length ≤ maxLen) : Calls Try.prog 7 #[.slice a b.length c, .int .i64 wide, .int .u32 (x : Int), arr m] w (Ok w) := by
  unfold maxLen at hm
  unfold arr
  go_enter Try.func7, Try.ntmps7
  go_wp2_with (go_at_call 12; refine (works_any _).mono ?_; rintro e w2 ⟨rfl, g2⟩)
  go_ret
  exact ⟨rfl, gb_trans (gb_alloc _ _ _) g2⟩
set_option maxRecDepth 100000 in
set_option maxHeartbeats 4000000 in
theorem lines_walk {b : List UInt8} (a : Option Addr) (c : Nat) (wide : Int) (x : Nat) (hx : x < 4294967296) (m : List UInt8) (hm : m.length = 16) (w : World) (hs : Src w a b) (hb : b.length ≤ 10000) : Calls Try.prog 7 #[.slice a b.length c, .int .i64 wide, .int .u32 (x : Int), arr m] w (Ok w) := by
  have hs' := hs.kept (gb_alloc w (.cells (bcells m) 46) none)
  have HS := hid hs'; clear hs hs'
  have HM := hid (bcells_row w m hm)
  unfold arr
  go_enter Try.func7, Try.ntmps7
  go_wp2_with fail
  refine (sized_any _ _ _ _ HS.out hb).mono ?_; rintro e w1 ⟨l, g, rfl, hr, hsz, hg, hgb⟩
  have hlen := szB_le hsz
  have HR := hid hr
  have HZ := hid hsz
  have HG := hid hgb
  have hglt := hr.lt
  have hwlt := hgb.size
  clear hr hsz hgb
  go_wp2_with fail
  refine (of_ok _ _ _ HZ.out HR.out.src).mono ?_; rintro e w2 ⟨rfl, hi, hgb⟩
  have HI := hid hi
  have HR2 := hid (HR.out.grown hgb (by simp))
  have HG2 := hid (gb_trans HG.out hgb)
  clear hi hgb HR HG
  go_wp2_with fail
  refine (num_any _ _).mono ?_; rintro e w' ⟨rfl, rfl⟩
  by_cases hn : l.length / 16 ≤ x
  · obtain ⟨z, hz⟩ : ∃ z : List UInt8, z = List.replicate 16 0 := ⟨_, rfl⟩
    have HZL : Hid (z.length = 16) := hid (by rw [hz]; rfl)
    have hl := line_of_range x _ HI.out hn (by omega)
    rw [← hz] at hl
    have HZE := hid hz
    have HLN := hid hl
    have HS16 := hid ((bcells_size z).trans HZL.out)
    clear hz hl
    go_wp2_with fail
    refine HLN.out.mono ?_; rintro e w3 ⟨rfl, gb3⟩
    unfold arr
    have HG3 := hid (gb_trans HG2.out gb3); have HI3 := hid (HI.out.grown gb3 (by simp) (by simp)); have HR3 := hid (HR2.out.grown gb3 (by simp))
    clear gb3
    have HSM := hid ((bcells_size m).trans hm)
    go_wp2_with first
      | (refine wpList_store_row rfl 46 _ _ rfl w3.heap.size _ rfl rfl 46 _ (heap_alloc_new w3 _) (by rw [HS16.out]; kernel_rfl) (by rw [HS16.out]; rfl) (bcells_one z) ?_; have hp := put_new w3 z HZL.out; unfold arr0 at hp; generalize World.setRow _ _ _ = w4 at hp ⊢; have HG4 := hid (gb_trans HG3.out hp.2); have HI4 := hid (HI3.out.grown hp.2 (by simp) (by simp)); have HR4 := hid (HR3.out.grown hp.2 (by simp)); have HL4 := hid (hp.1.whole HZL.out); have HM4 := hid ((HM.out.grown HG4.out (by simp)).whole hm); clear hp)
      | (refine wpList_load_row rfl 46 _ rfl w.heap.size rfl 46 _ (0, 0) _ HM4.out Try.underlying46 rfl (by rw [HSM.out]; kernel_rfl) ?_)
    refine (setline_range x m _ HI4.out hn (by omega)).mono ?_; rintro e w5 ⟨rfl, gb5⟩
    have HG5 := hid (gb_trans HG4.out gb5); have HI5 := hid (HI4.out.grown gb5 (by simp) (by simp)); have HR5 := hid (HR4.out.grown gb5 (by simp)); have HB5 := hid (gb5.block w3.heap.size (lt_of_block HL4.out) (by simp))
    have HL5 := hid (HB5.out.trans HL4.out)
    clear gb5
    go_wp2_with fail
    have kw : ∀ W, w5.grownBy W none → Sem.run Try.prog (convert 30 9 (.slice (some ⟨g, 0, none⟩) l.length l.length)) W = .ok (.string ⟨(l).toArray⟩) W := fun W h => conv_src (HR5.out.grown h (by simp)).src l.length
    have HB0 : Hid (bcells z = #[.int .u8 0, .int .u8 0, .int .u8 0, .int .u8 0, .int .u8 0, .int .u8 0, .int .u8 0, .int .u8 0, .int .u8 0, .int .u8 0, .int .u8 0, .int .u8 0, .int .u8 0, .int .u8 0, .int .u8 0, .int .u8 0]) := hid (by rw [HZE.out]; rfl)
    have HBY := hid (fun (W : World) (h : w5.grownBy W none) => bytes_img W (HI5.out.grown h (by simp) (by simp)) (by omega))
    refine wp_region_noPanic ?_
    refine wp_region_held_drew (S := fun W => World.grownBy w5 W none) (by kernel_rfl) (gb_drew _ _) (fun hHeld => ?_)
    refine wpAnyH_take (i := 0) (oi := ?_) (v := ?_) ?_ (by kernel_rfl) (by kernel_rfl) (by kernel_rfl) (fun _ _ _ h => h) ?_ (by assumption) ?_
    rotate_left 2
    · simp only [List.getElem?_toArray, List.getElem?_cons_zero]; exact rfl
    · refine Or.inl ⟨by rfl, ?_⟩; intro W hW; refine exec_load_arr (.tmp 12) ?_ w3.heap.size ?_ z HZL.out ?_
      · rfl
      · rfl
      · rw [hW.block _ (lt_of_block HL5.out) (by simp)]; exact HL5.out
    try simp only [Act.put, List.setIfInBounds_toArray, List.set_cons_zero, List.set_cons_succ]
    refine wpAnyH_take (i := 1) (oi := ?_) (v := ?_) ?_ (by kernel_rfl) (by kernel_rfl) (by kernel_rfl) (fun _ _ _ h => h) ?_ (by assumption) ?_
    rotate_left 2
    · simp only [List.getElem?_toArray, List.getElem?_cons_succ, List.getElem?_cons_zero]; exact rfl
    · refine Or.inl ⟨by rfl, ?_⟩; intro W hW; go_simp; try (with_reducible rfl)
    try simp only [Act.put, List.setIfInBounds_toArray, List.set_cons_zero, List.set_cons_succ]
    refine wpAnyH_take (i := 2) (oi := ?_) (v := ?_) ?_ (by kernel_rfl) (by kernel_rfl) (by kernel_rfl) (fun _ _ _ h => h) ?_ (by assumption) ?_
    rotate_left 2
    · simp only [List.getElem?_toArray, List.getElem?_cons_succ, List.getElem?_cons_zero]; exact rfl
    · refine Or.inl ⟨by rfl, ?_⟩; intro W hW; refine exec_eql_arr (.tmp 48) (.tmp 49) 46 ?_ z z ?_ ?_ HZL.out HZL.out
      · rfl
      · rfl
      · rw [HB0.out]; rfl
    try simp only [Act.put, List.setIfInBounds_toArray, List.set_cons_zero, List.set_cons_succ]
    rw [beq_self_eq_true]
    refine wpAnyH_take (i := 3) (oi := ?_) (v := ?_) ?_ (by kernel_rfl) (by kernel_rfl) (by kernel_rfl) (fun _ _ _ h => h) ?_ (by assumption) ?_
    rotate_left 2
    · simp only [List.getElem?_toArray, List.getElem?_cons_succ, List.getElem?_cons_zero]; exact rfl
    · refine Or.inl ⟨by rfl, ?_⟩; intro W hW; go_simp; try (with_reducible rfl)
    try simp only [Act.put, List.setIfInBounds_toArray, List.set_cons_zero, List.set_cons_succ]
    refine wpAnyH_take (i := 4) (oi := ?_) (v := ?_) ?_ (by kernel_rfl) (by kernel_rfl) (by kernel_rfl) (fun _ _ _ h => h) ?_ (by assumption) ?_
    rotate_left 2
    · simp only [List.getElem?_toArray, List.getElem?_cons_succ, List.getElem?_cons_zero]; exact rfl
    · refine Or.inl ⟨by rfl, ?_⟩; intro W hW; go_simp; try (with_reducible rfl)
    try simp only [Act.put, List.setIfInBounds_toArray, List.set_cons_zero, List.set_cons_succ]
    refine wpAnyH_ready (rs := [5]) (by kernel_rfl) (by simp) ?_
    refine AllReadyH.cons (o := ?_) ?_ (fun K hK => ?_) AllReadyH.nil
    rotate_left 1
    · simp only [List.getElem?_toArray, List.getElem?_cons_succ, List.getElem?_cons_zero]; exact rfl
    go_simp
    refine (num_any _ _).mono ?_; rintro e w' ⟨rfl, rfl⟩
    refine hK.out _ _ (hHeld) (fun hHeld => ?_)
    clear hK K
    try simp only [Act.put, List.setIfInBounds_toArray, List.set_cons_zero, List.set_cons_succ]
    refine wpAnyH_take (i := 6) (oi := ?_) (v := ?_) ?_ (by kernel_rfl) (by kernel_rfl) (by kernel_rfl) (fun _ _ _ h => h) ?_ (by assumption) ?_
    rotate_left 2
    · simp only [List.getElem?_toArray, List.getElem?_cons_succ, List.getElem?_cons_zero]; exact rfl
    · refine Or.inl ⟨by rfl, ?_⟩; intro W hW; go_simp; try (with_reducible rfl)
    try simp only [Act.put, List.setIfInBounds_toArray, List.set_cons_zero, List.set_cons_succ]
    refine wpAnyH_take (i := 7) (oi := ?_) (v := ?_) ?_ (by kernel_rfl) (by kernel_rfl) (by kernel_rfl) (fun _ _ _ h => h) ?_ (by assumption) ?_
    rotate_left 2
    · simp only [List.getElem?_toArray, List.getElem?_cons_succ, List.getElem?_cons_zero]; exact rfl
    · refine Or.inl ⟨by rfl, ?_⟩; intro W hW; go_simp; try (with_reducible rfl)
    try simp only [Act.put, List.setIfInBounds_toArray, List.set_cons_zero, List.set_cons_succ]
    refine wpAnyH_take (i := 8) (oi := ?_) (v := ?_) ?_ (by kernel_rfl) (by kernel_rfl) (by kernel_rfl) (fun _ _ _ h => h) ?_ (by assumption) ?_
    rotate_left 2
    · simp only [List.getElem?_toArray, List.getElem?_cons_succ, List.getElem?_cons_zero]; exact rfl
    · refine Or.inl ⟨by rfl, ?_⟩; intro W hW; go_simp; try (with_reducible rfl)
    try simp only [Act.put, List.setIfInBounds_toArray, List.set_cons_zero, List.set_cons_succ]
    refine wpAnyH_take (i := 9) (oi := ?_) (v := ?_) ?_ (by kernel_rfl) (by kernel_rfl) (by kernel_rfl) (fun _ _ _ h => h) ?_ (by assumption) ?_
    rotate_left 2
    · simp only [List.getElem?_toArray, List.getElem?_cons_succ, List.getElem?_cons_zero]; exact rfl
    · refine Or.inl ⟨by rfl, ?_⟩; intro W hW; go_simp; try (with_reducible rfl)
    try simp only [Act.put, List.setIfInBounds_toArray, List.set_cons_zero, List.set_cons_succ]
    refine wpAnyH_ready (rs := [10]) (by kernel_rfl) (by simp) ?_
    refine AllReadyH.cons (o := ?_) ?_ (fun K hK => ?_) AllReadyH.nil
    rotate_left 1
    · simp only [List.getElem?_toArray, List.getElem?_cons_succ, List.getElem?_cons_zero]; exact rfl
    go_simp
    refine (num_any _ _).mono ?_; rintro e w' ⟨rfl, rfl⟩
    refine hK.out _ _ (hHeld) (fun hHeld => ?_)
    clear hK K
    try simp only [Act.put, List.setIfInBounds_toArray, List.set_cons_zero, List.set_cons_succ]
    refine wpAnyH_take (i := 11) (oi := ?_) (v := ?_) ?_ (by kernel_rfl) (by kernel_rfl) (by kernel_rfl) (fun _ _ _ h => h) ?_ (by assumption) ?_
    rotate_left 2
    · simp only [List.getElem?_toArray, List.getElem?_cons_succ, List.getElem?_cons_zero]; exact rfl
    · refine Or.inl ⟨by rfl, ?_⟩; intro W hW; go_simp; try (with_reducible rfl)
    try simp only [Act.put, List.setIfInBounds_toArray, List.set_cons_zero, List.set_cons_succ]
    refine wpAnyH_take (i := 12) (oi := ?_) (v := ?_) ?_ (by kernel_rfl) (by kernel_rfl) (by kernel_rfl) (fun _ _ _ h => h) ?_ (by assumption) ?_
    rotate_left 2
    · simp only [List.getElem?_toArray, List.getElem?_cons_succ, List.getElem?_cons_zero]; exact rfl
    · refine Or.inl ⟨by rfl, ?_⟩; intro W hW; go_simp; try (with_reducible rfl)
    try simp only [Act.put, List.setIfInBounds_toArray, List.set_cons_zero, List.set_cons_succ]
    refine wpAnyH_take (i := 13) (oi := ?_) (v := ?_) ?_ (by kernel_rfl) (by kernel_rfl) (by kernel_rfl) (fun _ _ _ h => h) ?_ (by assumption) ?_
    rotate_left 2
    · simp only [List.getElem?_toArray, List.getElem?_cons_succ, List.getElem?_cons_zero]; exact rfl
    · refine Or.inl ⟨by rfl, ?_⟩; intro W hW; go_simp; try (with_reducible rfl)
    try simp only [Act.put, List.setIfInBounds_toArray, List.set_cons_zero, List.set_cons_succ]
    refine wpAnyH_take (i := 14) (oi := ?_) (v := ?_) ?_ (by kernel_rfl) (by kernel_rfl) (by kernel_rfl) (fun _ _ _ h => h) ?_ (by assumption) ?_
    rotate_left 2
    · simp only [List.getElem?_toArray, List.getElem?_cons_succ, List.getElem?_cons_zero]; exact rfl
    · refine Or.inl ⟨by rfl, ?_⟩; intro W hW; go_simp; try (with_reducible rfl)
    try simp only [Act.put, List.setIfInBounds_toArray, List.set_cons_zero, List.set_cons_succ]
    refine wpAnyH_take (i := 17) (oi := ?_) (v := ?_) ?_ (by kernel_rfl) (by kernel_rfl) (by kernel_rfl) (fun _ _ _ h => h) ?_ (by assumption) ?_
    rotate_left 2
    · simp only [List.getElem?_toArray, List.getElem?_cons_succ, List.getElem?_cons_zero]; exact rfl
    · refine Or.inl ⟨by rfl, ?_⟩; intro W hW; go_simp; try (with_reducible rfl)
    try simp only [Act.put, List.setIfInBounds_toArray, List.set_cons_zero, List.set_cons_succ]
    refine wpAnyH_take (i := 18) (oi := ?_) (v := ?_) ?_ (by kernel_rfl) (by kernel_rfl) (by kernel_rfl) (fun _ _ _ h => h) ?_ (by assumption) ?_
    rotate_left 2
    · simp only [List.getElem?_toArray, List.getElem?_cons_succ, List.getElem?_cons_zero]; exact rfl
    · refine Or.inl ⟨by rfl, ?_⟩; intro W hW; go_simp; try (with_reducible rfl)
    try simp only [Act.put, List.setIfInBounds_toArray, List.set_cons_zero, List.set_cons_succ]
    refine wpAnyH_ready (rs := [15]) (by kernel_rfl) (by simp) ?_
    refine AllReadyH.cons (o := ?_) ?_ (fun K hK => ?_) AllReadyH.nil
    rotate_left 1
    · simp only [List.getElem?_toArray, List.getElem?_cons_succ, List.getElem?_cons_zero]; exact rfl
    go_simp
    refine (HBY.out _ hHeld).mono ?_; rintro e w6 ⟨g6, n6, rfl, hr6, hg6, gb6⟩
    have HG6 := hid (gb_trans hHeld gb6)
    refine hK.out _ _ (HG6.out) (fun hHeld => ?_)
    clear hK K
    try simp only [Act.put, List.setIfInBounds_toArray, List.set_cons_zero, List.set_cons_succ]
    refine wpAnyH_mono (S1 := fun W => World.grownBy w6 W none) (fun W h => gb_trans HG6.out h) _ _ _ _ ?_
    clear hHeld
    have hHeld : World.grownBy w6 w6 none := gb_refl _ _
    have kc6 : ∀ W, w6.grownBy W none → Sem.run Try.prog (convert 30 9 (.slice (some ⟨g6, 0, none⟩) l.length n6)) W = .ok (.string ⟨(l).toArray⟩) W := fun W h => conv_src (hr6.grown h (by simp)).src n6
    clear hr6 hg6 gb6 kw
    refine wpAnyH_take (i := 16) (oi := ?_) (v := ?_) ?_ (by kernel_rfl) (by kernel_rfl) (by kernel_rfl) (fun _ _ _ h => h) ?_ (by assumption) ?_
    rotate_left 2
    · simp only [List.getElem?_toArray, List.getElem?_cons_succ, List.getElem?_cons_zero]; exact rfl
    · refine Or.inl ⟨by rfl, ?_⟩; intro W hW; go_simp; try (with_reducible rfl)
    try simp only [Act.put, List.setIfInBounds_toArray, List.set_cons_zero, List.set_cons_succ]
    refine wpAnyH_take (i := 19) (oi := ?_) (v := ?_) ?_ (by kernel_rfl) (by kernel_rfl) (by kernel_rfl) (fun _ _ _ h => h) ?_ (by assumption) ?_
    rotate_left 2
    · simp only [List.getElem?_toArray, List.getElem?_cons_succ, List.getElem?_cons_zero]; exact rfl
    · refine Or.inl ⟨by rfl, ?_⟩; intro W hW; go_simp; try (with_reducible rfl)
    try simp only [Act.put, List.setIfInBounds_toArray, List.set_cons_zero, List.set_cons_succ]
    refine wpAnyH_take (i := 20) (oi := ?_) (v := ?_) ?_ (by kernel_rfl) (by kernel_rfl) (by kernel_rfl) (fun _ _ _ h => h) ?_ (by assumption) ?_
    rotate_left 2
    · simp only [List.getElem?_toArray, List.getElem?_cons_succ, List.getElem?_cons_zero]; exact rfl
    · refine Or.inl ⟨by rfl, ?_⟩; intro W hW; go_simp; try (with_reducible rfl)
    try simp only [Act.put, List.setIfInBounds_toArray, List.set_cons_zero, List.set_cons_succ]
    refine wpAnyH_take (i := 21) (oi := ?_) (v := ?_) ?_ (by kernel_rfl) (by kernel_rfl) (by kernel_rfl) (fun _ _ _ h => h) ?_ (by assumption) ?_
    rotate_left 2
    · simp only [List.getElem?_toArray, List.getElem?_cons_succ, List.getElem?_cons_zero]; exact rfl
    · refine Or.inl ⟨by rfl, ?_⟩; intro W hW; go_simp; try (with_reducible rfl)
    try simp only [Act.put, List.setIfInBounds_toArray, List.set_cons_zero, List.set_cons_succ]
    refine wpAnyH_ready (rs := [22]) (by kernel_rfl) (by simp) ?_
    refine AllReadyH.cons (o := ?_) ?_ (fun K hK => ?_) AllReadyH.nil
    rotate_left 1
    · simp only [List.getElem?_toArray, List.getElem?_cons_succ, List.getElem?_cons_zero]; exact rfl
    go_simp
    refine (works_any _).mono ?_; rintro e w9 ⟨rfl, gb9⟩
    refine hK.out _ _ (gb_trans hHeld gb9) (fun hHeld => ?_)
    clear hK K
    try simp only [Act.put, List.setIfInBounds_toArray, List.set_cons_zero, List.set_cons_succ]
    refine wpAnyH_take (i := 23) (oi := ?_) (v := ?_) ?_ (by kernel_rfl) (by kernel_rfl) (by kernel_rfl) (fun _ _ _ h => h) ?_ (by assumption) ?_
    rotate_left 2
    · simp only [List.getElem?_toArray, List.getElem?_cons_succ, List.getElem?_cons_zero]; exact rfl
    · refine Or.inl ⟨by rfl, ?_⟩; intro W hW; go_simp; try (with_reducible rfl)
    try simp only [Act.put, List.setIfInBounds_toArray, List.set_cons_zero, List.set_cons_succ]
    refine wpAnyH_take (i := 24) (oi := ?_) (v := ?_) ?_ (by kernel_rfl) (by kernel_rfl) (by kernel_rfl) (fun _ _ _ h => h) ?_ (by assumption) ?_
    rotate_left 2
    · simp only [List.getElem?_toArray, List.getElem?_cons_succ, List.getElem?_cons_zero]; exact rfl
    · refine Or.inl ⟨by rfl, ?_⟩; intro W hW; go_simp; try (with_reducible rfl)
    try simp only [Act.put, List.setIfInBounds_toArray, List.set_cons_zero, List.set_cons_succ]
    refine wpAnyH_done (by kernel_rfl) ?_ _
    refine NoPanic.normal ?_
    go_wp2
    go_ret
    exact ⟨rfl, gb_trans (gb_alloc _ _ _) (gb_trans HG5.out (gb_trans HG6.out gb9))⟩
  · have hn2 : 16 * x + 16 ≤ l.length := by omega
    obtain ⟨z, hz⟩ : ∃ z : List UInt8, z = (l.drop (16 * x)).take 16 := ⟨_, rfl⟩
    have HZL : Hid (z.length = 16) := hid (by rw [hz]; simp; omega)
    have hl := line_ok x _ HI.out hn2 (by omega)
    rw [← hz] at hl
    have HZE := hid hz
    have HLN := hid hl
    have HS16 := hid ((bcells_size z).trans HZL.out)
    clear hz hl
    have hw2 := HI.out.lt.1
    go_wp2_with fail
    refine HLN.out.mono ?_; rintro e w3 ⟨rfl, gb3⟩
    unfold arr
    have HG3 := hid (gb_trans HG2.out gb3); have HI3 := hid (HI.out.grown gb3 (by simp) (by simp)); have HR3 := hid (HR2.out.grown gb3 (by simp))
    have hw3 := gb3.size
    clear gb3
    have HSM := hid ((bcells_size m).trans hm)
    go_wp2_with first
      | (refine wpList_store_row rfl 46 _ _ rfl w3.heap.size _ rfl rfl 46 _ (heap_alloc_new w3 _) (by rw [HS16.out]; kernel_rfl) (by rw [HS16.out]; rfl) (bcells_one z) ?_; have hp := put_new w3 z HZL.out; unfold arr0 at hp; generalize World.setRow _ _ _ = w4 at hp ⊢; have HG4 := hid (gb_trans HG3.out hp.2); have HI4 := hid (HI3.out.grown hp.2 (by simp) (by simp)); have HR4 := hid (HR3.out.grown hp.2 (by simp)); have HL4 := hid (hp.1.whole HZL.out); have HM4 := hid ((HM.out.grown HG4.out (by simp)).whole hm); have hw4 := hp.2.size; clear hp)
      | (refine wpList_load_row rfl 46 _ rfl w.heap.size rfl 46 _ (0, 0) _ HM4.out Try.underlying46 rfl (by rw [HSM.out]; kernel_rfl) ?_)
    refine (setline_ok x m hm _ HI4.out hn2 (by omega)).mono ?_; rintro e w5 ⟨rfl, hi5, gb5⟩
    have HG5 := hid (gb_new HG4.out gb5 hwlt); have HI5 := hid hi5; have HR5 := hid (HR4.out.grown gb5 (by simp; omega)); have HB5 := hid (gb5.block w3.heap.size (lt_of_block HL4.out) (by simp; omega))
    have HL5 := hid (HB5.out.trans HL4.out)
    have hw5 := gb5.size
    have HM5 := hid (HM.out.grown HG5.out (by simp))
    clear gb5 hi5
    go_wp2_with (at_builtin; refine wpList_append_src rfl _ _ rfl w5.heap.size w5.heap.size 0 0 [] rfl rfl (mine_new w5) (some ⟨g, 0, none⟩) l _ l.length rfl rfl (HR5.out.grown (gb_alloc w5 _ none) (by simp)).src (by simp) (by simp; omega) (by simp) ?_; intro g6 k6 w6 hm6 hgb6; rw [List.nil_append] at hm6; have HG6 := hid (gb_new (gb_alloc w5 _ none) hgb6 (Nat.le_refl _)); have hlt6 := hm6.row.1.lt; have hle6 := hm6.row.2; have HQ6 := hid hm6.row.1; clear hm6 hgb6)
    go_loopw [16] (fun i wr => ∃ j : Nat, j ≤ 16 ∧ i = .int .i64 j ∧ Hid (LR w5 g6 k6 (putAt l (16 * x) (m.take j)) wr)) (fun i _ => 16 - (RowKit.intOf i).toNat)
    case atStart => exact ⟨0, Nat.zero_le _, rfl, hid ⟨by rw [List.take_zero, putAt_nil]; exact HQ6.out, HG6.out⟩⟩
    case round =>
      obtain ⟨j, hj, rfl, HB⟩ := hrel
      by_cases hlt : j < 16
      · obtain ⟨y, hy, ⟨old, hdst⟩, hfr, hnew⟩ := HB.out.step (by omega) (by omega) hle6
        have HNEW := hid hnew
        have hsrc : wr.cell? ⟨w.heap.size, j, none⟩ = some (.int .u8 (y.toNat : Int)) := (HM5.out.grown HB.out.2 (by simp)).cell j y hy
        clear hnew HB hy
        go_wp2
        go_roundw
        case rel => exact ⟨j + 1, by omega, by go_num, HNEW⟩
        case measure => simp [RowKit.intOf]; omega
      · obtain rfl : j = 16 := by omega
        have hmt : m.take 16 = m := List.take_of_length_le (by omega)
        have hb' := HB.out
        rw [hmt] at hb'
        have HQ7 := hid hb'.1
        have HG7 := hid (gb_trans HG5.out hb'.2); have HI7 := hid (HI5.out.grown hb'.2 (by simp) (by simp)); have HR7 := hid (HR5.out.grown hb'.2 (by simp))
        have HL7 := hid ((hb'.2.block w3.heap.size (lt_of_block HL5.out) (by simp)).trans HL5.out)
        clear hb'
        have HP : Hid ((putAt l (16 * x) m).length = l.length) := hid (putAt_length l (16 * x) m (by omega))
        go_wp2_with fail
        refine wp_region_noPanic ?_
        refine wp_region_held_drew (S := fun W => World.grownBy wr W none) (by kernel_rfl) (gb_drew _ _) (fun hHeld => ?_)
        refine wpAnyH_take (i := 0) (oi := ?_) (v := ?_) ?_ (by kernel_rfl) (by kernel_rfl) (by kernel_rfl) (fun _ _ _ h => h) ?_ (by assumption) ?_
        rotate_left 2
        · simp only [List.getElem?_toArray, List.getElem?_cons_zero]; exact rfl
        · refine Or.inl ⟨by rfl, ?_⟩; intro W hW; refine exec_load_arr (.tmp 12) ?_ w3.heap.size ?_ z HZL.out ?_
          · rfl
          · rfl
          · rw [hW.block _ (lt_of_block HL7.out) (by simp)]; exact HL7.out
        try simp only [Act.put, List.setIfInBounds_toArray, List.set_cons_zero, List.set_cons_succ]
        refine wpAnyH_take (i := 1) (oi := ?_) (v := ?_) ?_ (by kernel_rfl) (by kernel_rfl) (by kernel_rfl) (fun _ _ _ h => h) ?_ (by assumption) ?_
        rotate_left 2
        · simp only [List.getElem?_toArray, List.getElem?_cons_succ, List.getElem?_cons_zero]; exact rfl
        · refine Or.inl ⟨by rfl, ?_⟩; intro W hW; go_simp; try (with_reducible rfl)
        try simp only [Act.put, List.setIfInBounds_toArray, List.set_cons_zero, List.set_cons_succ]
        refine wpAnyH_take (i := 2) (oi := ?_) (v := ?_) ?_ (by kernel_rfl) (by kernel_rfl) (by kernel_rfl) (fun _ _ _ h => h) ?_ (by assumption) ?_
        rotate_left 2
        · simp only [List.getElem?_toArray, List.getElem?_cons_succ, List.getElem?_cons_zero]; exact rfl
        · refine Or.inl ⟨by rfl, ?_⟩; intro W hW; go_simp; try (with_reducible rfl)
        try simp only [Act.put, List.setIfInBounds_toArray, List.set_cons_zero, List.set_cons_succ]
        refine wpAnyH_ready (rs := [3]) (by kernel_rfl) (by simp) ?_
        refine AllReadyH.cons (o := ?_) ?_ (fun K hK => ?_) AllReadyH.nil
        rotate_left 1
        · simp only [List.getElem?_toArray, List.getElem?_cons_succ, List.getElem?_cons_zero]; exact rfl
        go_simp
        have hl := rline_any g l.length l.length l.length x _ (HR7.out.grown hHeld (by simp)) rfl hn2 (by omega)
        rw [← HZE.out] at hl
        refine hl.mono ?_; rintro e w8 ⟨rfl, gb8⟩
        clear hl
        unfold arr
        have HG8 := hid (gb_trans hHeld gb8)
        refine hK.out _ _ (HG8.out) (fun hHeld => ?_)
        clear hK K
        try simp only [Act.put, List.setIfInBounds_toArray, List.set_cons_zero, List.set_cons_succ]
        refine wpAnyH_mono (S1 := fun W => World.grownBy w8 W none) (fun W h => gb_trans HG8.out h) _ _ _ _ ?_
        clear hHeld
        have hHeld : World.grownBy w8 w8 none := gb_refl _ _
        clear gb8
        have kq8 : ∀ W, w8.grownBy W none → Sem.run Try.prog (convert 30 9 (.slice (some ⟨g6, 0, none⟩) l.length k6)) W = .ok (.string ⟨(putAt l (16 * x) m).toArray⟩) W := fun W h => by have := conv_src (HQ7.out.grown (gb_trans HG8.out h) (by simp)).src k6; rw [HP.out] at this; exact this
        have HBY := hid (fun (W : World) (h : w8.grownBy W none) => bytes_img W (HI7.out.grown (gb_trans HG8.out h) (by simp) (by simp)) (by rw [HP.out]; omega))
        refine wpAnyH_take (i := 4) (oi := ?_) (v := ?_) ?_ (by kernel_rfl) (by kernel_rfl) (by kernel_rfl) (fun _ _ _ h => h) ?_ (by assumption) ?_
        rotate_left 2
        · simp only [List.getElem?_toArray, List.getElem?_cons_succ, List.getElem?_cons_zero]; exact rfl
        · refine Or.inl ⟨by rfl, ?_⟩; intro W hW; refine exec_eql_arr (.tmp 89) (.tmp 92) 46 ?_ z z ?_ ?_ HZL.out HZL.out
          · rfl
          · rfl
          · rfl
        try simp only [Act.put, List.setIfInBounds_toArray, List.set_cons_zero, List.set_cons_succ]
        rw [beq_self_eq_true]
        refine wpAnyH_take (i := 5) (oi := ?_) (v := ?_) ?_ (by kernel_rfl) (by kernel_rfl) (by kernel_rfl) (fun _ _ _ h => h) ?_ (by assumption) ?_
        rotate_left 2
        · simp only [List.getElem?_toArray, List.getElem?_cons_succ, List.getElem?_cons_zero]; exact rfl
        · refine Or.inl ⟨by rfl, ?_⟩; intro W hW; go_simp; try (with_reducible rfl)
        try simp only [Act.put, List.setIfInBounds_toArray, List.set_cons_zero, List.set_cons_succ]
        refine wpAnyH_take (i := 6) (oi := ?_) (v := ?_) ?_ (by kernel_rfl) (by kernel_rfl) (by kernel_rfl) (fun _ _ _ h => h) ?_ (by assumption) ?_
        rotate_left 2
        · simp only [List.getElem?_toArray, List.getElem?_cons_succ, List.getElem?_cons_zero]; exact rfl
        · refine Or.inl ⟨by rfl, ?_⟩; intro W hW; go_simp; try (with_reducible rfl)
        try simp only [Act.put, List.setIfInBounds_toArray, List.set_cons_zero, List.set_cons_succ]
        refine wpAnyH_ready (rs := [7]) (by kernel_rfl) (by simp) ?_
        refine AllReadyH.cons (o := ?_) ?_ (fun K hK => ?_) AllReadyH.nil
        rotate_left 1
        · simp only [List.getElem?_toArray, List.getElem?_cons_succ, List.getElem?_cons_zero]; exact rfl
        go_simp
        refine (num_any _ _).mono ?_; rintro e w' ⟨rfl, rfl⟩
        refine hK.out _ _ (hHeld) (fun hHeld => ?_)
        clear hK K
        try simp only [Act.put, List.setIfInBounds_toArray, List.set_cons_zero, List.set_cons_succ]
        refine wpAnyH_take (i := 8) (oi := ?_) (v := ?_) ?_ (by kernel_rfl) (by kernel_rfl) (by kernel_rfl) (fun _ _ _ h => h) ?_ (by assumption) ?_
        rotate_left 2
        · simp only [List.getElem?_toArray, List.getElem?_cons_succ, List.getElem?_cons_zero]; exact rfl
        · refine Or.inl ⟨by rfl, ?_⟩; intro W hW; go_simp; try (with_reducible rfl)
        try simp only [Act.put, List.setIfInBounds_toArray, List.set_cons_zero, List.set_cons_succ]
        refine wpAnyH_take (i := 9) (oi := ?_) (v := ?_) ?_ (by kernel_rfl) (by kernel_rfl) (by kernel_rfl) (fun _ _ _ h => h) ?_ (by assumption) ?_
        rotate_left 2
        · simp only [List.getElem?_toArray, List.getElem?_cons_succ, List.getElem?_cons_zero]; exact rfl
        · refine Or.inl ⟨by rfl, ?_⟩; intro W hW; go_simp; try (with_reducible rfl)
        try simp only [Act.put, List.setIfInBounds_toArray, List.set_cons_zero, List.set_cons_succ]
        refine wpAnyH_take (i := 10) (oi := ?_) (v := ?_) ?_ (by kernel_rfl) (by kernel_rfl) (by kernel_rfl) (fun _ _ _ h => h) ?_ (by assumption) ?_
        rotate_left 2
        · simp only [List.getElem?_toArray, List.getElem?_cons_succ, List.getElem?_cons_zero]; exact rfl
        · refine Or.inl ⟨by rfl, ?_⟩; intro W hW; go_simp; try (with_reducible rfl)
        try simp only [Act.put, List.setIfInBounds_toArray, List.set_cons_zero, List.set_cons_succ]
        refine wpAnyH_take (i := 11) (oi := ?_) (v := ?_) ?_ (by kernel_rfl) (by kernel_rfl) (by kernel_rfl) (fun _ _ _ h => h) ?_ (by assumption) ?_
        rotate_left 2
        · simp only [List.getElem?_toArray, List.getElem?_cons_succ, List.getElem?_cons_zero]; exact rfl
        · refine Or.inl ⟨by rfl, ?_⟩; intro W hW; go_simp; try (with_reducible rfl)
        try simp only [Act.put, List.setIfInBounds_toArray, List.set_cons_zero, List.set_cons_succ]
        refine wpAnyH_ready (rs := [12]) (by kernel_rfl) (by simp) ?_
        refine AllReadyH.cons (o := ?_) ?_ (fun K hK => ?_) AllReadyH.nil
        rotate_left 1
        · simp only [List.getElem?_toArray, List.getElem?_cons_succ, List.getElem?_cons_zero]; exact rfl
        go_simp
        refine (num_any _ _).mono ?_; rintro e w' ⟨rfl, rfl⟩
        refine hK.out _ _ (hHeld) (fun hHeld => ?_)
        clear hK K
        try simp only [Act.put, List.setIfInBounds_toArray, List.set_cons_zero, List.set_cons_succ]
        refine wpAnyH_take (i := 13) (oi := ?_) (v := ?_) ?_ (by kernel_rfl) (by kernel_rfl) (by kernel_rfl) (fun _ _ _ h => h) ?_ (by assumption) ?_
        rotate_left 2
        · simp only [List.getElem?_toArray, List.getElem?_cons_succ, List.getElem?_cons_zero]; exact rfl
        · refine Or.inl ⟨by rfl, ?_⟩; intro W hW; go_simp; try (with_reducible rfl)
        try simp only [Act.put, List.setIfInBounds_toArray, List.set_cons_zero, List.set_cons_succ]
        refine wpAnyH_take (i := 14) (oi := ?_) (v := ?_) ?_ (by kernel_rfl) (by kernel_rfl) (by kernel_rfl) (fun _ _ _ h => h) ?_ (by assumption) ?_
        rotate_left 2
        · simp only [List.getElem?_toArray, List.getElem?_cons_succ, List.getElem?_cons_zero]; exact rfl
        · refine Or.inl ⟨by rfl, ?_⟩; intro W hW; go_simp; try (with_reducible rfl)
        try simp only [Act.put, List.setIfInBounds_toArray, List.set_cons_zero, List.set_cons_succ]
        refine wpAnyH_take (i := 15) (oi := ?_) (v := ?_) ?_ (by kernel_rfl) (by kernel_rfl) (by kernel_rfl) (fun _ _ _ h => h) ?_ (by assumption) ?_
        rotate_left 2
        · simp only [List.getElem?_toArray, List.getElem?_cons_succ, List.getElem?_cons_zero]; exact rfl
        · refine Or.inl ⟨by rfl, ?_⟩; intro W hW; go_simp; try (with_reducible rfl)
        try simp only [Act.put, List.setIfInBounds_toArray, List.set_cons_zero, List.set_cons_succ]
        refine wpAnyH_take (i := 16) (oi := ?_) (v := ?_) ?_ (by kernel_rfl) (by kernel_rfl) (by kernel_rfl) (fun _ _ _ h => h) ?_ (by assumption) ?_
        rotate_left 2
        · simp only [List.getElem?_toArray, List.getElem?_cons_succ, List.getElem?_cons_zero]; exact rfl
        · refine Or.inl ⟨by rfl, ?_⟩; intro W hW; go_simp; try (with_reducible rfl)
        try simp only [Act.put, List.setIfInBounds_toArray, List.set_cons_zero, List.set_cons_succ]
        refine wpAnyH_take (i := 19) (oi := ?_) (v := ?_) ?_ (by kernel_rfl) (by kernel_rfl) (by kernel_rfl) (fun _ _ _ h => h) ?_ (by assumption) ?_
        rotate_left 2
        · simp only [List.getElem?_toArray, List.getElem?_cons_succ, List.getElem?_cons_zero]; exact rfl
        · refine Or.inl ⟨by rfl, ?_⟩; intro W hW; go_simp; try (with_reducible rfl)
        try simp only [Act.put, List.setIfInBounds_toArray, List.set_cons_zero, List.set_cons_succ]
        refine wpAnyH_take (i := 20) (oi := ?_) (v := ?_) ?_ (by kernel_rfl) (by kernel_rfl) (by kernel_rfl) (fun _ _ _ h => h) ?_ (by assumption) ?_
        rotate_left 2
        · simp only [List.getElem?_toArray, List.getElem?_cons_succ, List.getElem?_cons_zero]; exact rfl
        · refine Or.inl ⟨by rfl, ?_⟩; intro W hW; go_simp; try (with_reducible rfl)
        try simp only [Act.put, List.setIfInBounds_toArray, List.set_cons_zero, List.set_cons_succ]
        refine wpAnyH_ready (rs := [17]) (by kernel_rfl) (by simp) ?_
        refine AllReadyH.cons (o := ?_) ?_ (fun K hK => ?_) AllReadyH.nil
        rotate_left 1
        · simp only [List.getElem?_toArray, List.getElem?_cons_succ, List.getElem?_cons_zero]; exact rfl
        go_simp
        refine (HBY.out _ hHeld).mono ?_; rintro e w9 ⟨g9, n9, rfl, hr9, hg9, gb9⟩
        rw [HP.out]
        have HG9 := hid (gb_trans hHeld gb9)
        refine hK.out _ _ (HG9.out) (fun hHeld => ?_)
        clear hK K
        try simp only [Act.put, List.setIfInBounds_toArray, List.set_cons_zero, List.set_cons_succ]
        refine wpAnyH_mono (S1 := fun W => World.grownBy w9 W none) (fun W h => gb_trans HG9.out h) _ _ _ _ ?_
        clear hHeld
        have hHeld : World.grownBy w9 w9 none := gb_refl _ _
        have kc9 : ∀ W, w9.grownBy W none → Sem.run Try.prog (convert 30 9 (.slice (some ⟨g9, 0, none⟩) l.length n9)) W = .ok (.string ⟨(putAt l (16 * x) m).toArray⟩) W := fun W h => by have := conv_src (hr9.grown h (by simp)).src n9; rw [HP.out] at this; exact this
        clear hr9 hg9 gb9 kq8
        refine wpAnyH_take (i := 18) (oi := ?_) (v := ?_) ?_ (by kernel_rfl) (by kernel_rfl) (by kernel_rfl) (fun _ _ _ h => h) ?_ (by assumption) ?_
        rotate_left 2
        · simp only [List.getElem?_toArray, List.getElem?_cons_succ, List.getElem?_cons_zero]; exact rfl
        · refine Or.inl ⟨by rfl, ?_⟩; intro W hW; go_simp; try (with_reducible rfl)
        try simp only [Act.put, List.setIfInBounds_toArray, List.set_cons_zero, List.set_cons_succ]
        refine wpAnyH_take (i := 21) (oi := ?_) (v := ?_) ?_ (by kernel_rfl) (by kernel_rfl) (by kernel_rfl) (fun _ _ _ h => h) ?_ (by assumption) ?_
        rotate_left 2
        · simp only [List.getElem?_toArray, List.getElem?_cons_succ, List.getElem?_cons_zero]; exact rfl
        · refine Or.inl ⟨by rfl, ?_⟩; intro W hW; go_simp; try (with_reducible rfl)
        try simp only [Act.put, List.setIfInBounds_toArray, List.set_cons_zero, List.set_cons_succ]
        refine wpAnyH_take (i := 22) (oi := ?_) (v := ?_) ?_ (by kernel_rfl) (by kernel_rfl) (by kernel_rfl) (fun _ _ _ h => h) ?_ (by assumption) ?_
        rotate_left 2
        · simp only [List.getElem?_toArray, List.getElem?_cons_succ, List.getElem?_cons_zero]; exact rfl
        · refine Or.inl ⟨by rfl, ?_⟩; intro W hW; go_simp; try (with_reducible rfl)
        try simp only [Act.put, List.setIfInBounds_toArray, List.set_cons_zero, List.set_cons_succ]
        refine wpAnyH_take (i := 23) (oi := ?_) (v := ?_) ?_ (by kernel_rfl) (by kernel_rfl) (by kernel_rfl) (fun _ _ _ h => h) ?_ (by assumption) ?_
        rotate_left 2
        · simp only [List.getElem?_toArray, List.getElem?_cons_succ, List.getElem?_cons_zero]; exact rfl
        · refine Or.inl ⟨by rfl, ?_⟩; intro W hW; go_simp; try (with_reducible rfl)
        try simp only [Act.put, List.setIfInBounds_toArray, List.set_cons_zero, List.set_cons_succ]
        refine wpAnyH_ready (rs := [24]) (by kernel_rfl) (by simp) ?_
        refine AllReadyH.cons (o := ?_) ?_ (fun K hK => ?_) AllReadyH.nil
        rotate_left 1
        · simp only [List.getElem?_toArray, List.getElem?_cons_succ, List.getElem?_cons_zero]; exact rfl
        go_simp
        refine (works_any _).mono ?_; rintro e w10 ⟨rfl, gb10⟩
        refine hK.out _ _ (gb_trans hHeld gb10) (fun hHeld => ?_)
        clear hK K
        try simp only [Act.put, List.setIfInBounds_toArray, List.set_cons_zero, List.set_cons_succ]
        refine wpAnyH_take (i := 25) (oi := ?_) (v := ?_) ?_ (by kernel_rfl) (by kernel_rfl) (by kernel_rfl) (fun _ _ _ h => h) ?_ (by assumption) ?_
        rotate_left 2
        · simp only [List.getElem?_toArray, List.getElem?_cons_succ, List.getElem?_cons_zero]; exact rfl
        · refine Or.inl ⟨by rfl, ?_⟩; intro W hW; go_simp; try (with_reducible rfl)
        try simp only [Act.put, List.setIfInBounds_toArray, List.set_cons_zero, List.set_cons_succ]
        refine wpAnyH_take (i := 26) (oi := ?_) (v := ?_) ?_ (by kernel_rfl) (by kernel_rfl) (by kernel_rfl) (fun _ _ _ h => h) ?_ (by assumption) ?_
        rotate_left 2
        · simp only [List.getElem?_toArray, List.getElem?_cons_succ, List.getElem?_cons_zero]; exact rfl
        · refine Or.inl ⟨by rfl, ?_⟩; intro W hW; go_simp; try (with_reducible rfl)
        try simp only [Act.put, List.setIfInBounds_toArray, List.set_cons_zero, List.set_cons_succ]
        refine wpAnyH_done (by kernel_rfl) ?_ _
        refine NoPanic.normal ?_
        go_wp2
        go_ret
        exact ⟨rfl, gb_trans (gb_alloc _ _ _) (gb_trans HG7.out (gb_trans HG8.out (gb_trans HG9.out gb10)))⟩
end Go.Proofs.Ytcibjhdkjkhhhaa
