/-
  Contracts of 'sized' and of the reference's 'Read', 'Write', 'Line'. Conditions: those that each theorem names.
-/
import Derived.Test.YtcibjhdkjkhhhaaImgH
namespace Go.Proofs.Ytcibjhdkjkhhhaa
open Go.RowKit Go.Lib

theorem Src.at {w : World} {a : Option Addr} {l : List UInt8} (h : Src w a l) (hl : 0 < l.length) : ∃ b o, a = some ⟨b, o, none⟩ ∧ ∀ (i : Nat) (x : UInt8), l[i]? = some x → w.cell? ⟨b, o + i, none⟩ = some (u8v x) := by
  cases a with
  | none => have := h.1 rfl; subst this; simp at hl
  | some ad =>
    obtain ⟨b, o, s⟩ := ad
    have h0 := h.2 _ rfl 0 l[0] (List.getElem?_eq_getElem hl)
    cases s with
    | some s =>
      exfalso
      unfold World.cell? at h0
      have e : (({ block := b, off := o, spot := some s } : Addr).add 0).spot.isSome = true := by unfold Addr.add; split <;> simp_all
      split at h0
      · rw [e] at h0; simp at h0
      · cases h0
    | none =>
      refine ⟨b, o, rfl, fun i x hx => ?_⟩
      have hadd : (⟨b, o, none⟩ : Addr).add i = ⟨b, o + i, none⟩ := by unfold Addr.add; split <;> simp_all
      rw [← hadd]
      exact h.2 _ rfl i x hx

theorem isK_half {k : Nat} (h : isK k) (hk : k < 4096) : k * 2 ≤ 4096 := by unfold isK at h; omega
/-- The bytes that 'sized' makes. -/
def SizedPost (w : World) (e : Ending) (w' : World) : Prop := ∃ l g, e = .returned (.slice (some ⟨g, 0, none⟩) l.length l.length) ∧ Row w' g l.length l ∧ szB (l.length : Int) = true ∧ w.heap.size ≤ g ∧ w.grownBy w' none
def Filled (w : World) (k : Nat) (wr : World) : Prop := ∃ l' : List UInt8, l'.length = k ∧ Row wr w.heap.size k l' ∧ w.grownBy wr none
set_option maxRecDepth 100000 in
theorem sized_any {b : List UInt8} (a : Option Addr) (c : Nat) (wide : Int) (w : World) (hs : Src w a b) (hb : b.length ≤ 10000) : Calls Try.prog 14 #[.slice a b.length c, .int .i64 wide] w (SizedPost w) := by
  have HS := hid hs; clear hs
  go_enter Try.func14, Try.ntmps14
  go_wp2
  go_loop [5] (fun i => ∃ k : Nat, i = .int .i64 k ∧ Hid (isK k) ∧ k ≤ 4096) (fun i => 4096 - (RowKit.intOf i).toNat)
  case atStart => exact ⟨16, rfl, hid (by unfold isK; omega), by omega⟩
  case round =>
    obtain ⟨k, rfl, HK, hk⟩ := hrel
    have h16 := (isK_bd HK.out).1
    by_cases hlt : k < 4096 ∧ (k : Int) < wide
    · obtain ⟨hlt, hlt2⟩ := hlt
      go_wp2
      go_round
      case rel => exact ⟨k * 2, by go_num, hid (isK_next HK.out hk), isK_half HK.out hlt⟩
      case measure => simp [RowKit.intOf]; omega
    · have hmk := make8 w k hk
      have HR0 := hid (zeros_row w k hk)
      have htest : ¬ (k < 4096) ∨ (k < 4096 ∧ ¬ (k : Int) < wide) := by omega
      clear hlt
      rcases htest with h1 | ⟨h1, h2⟩
      all_goals
        go_wp2
        clear hmk
        go_loopw [7] (fun i wr => ∃ j : Nat, j ≤ k ∧ i = .int .i64 j ∧ Hid (Filled w k wr)) (fun i _ => k - (RowKit.intOf i).toNat)
        case atStart => exact ⟨0, Nat.zero_le _, rfl, hid ⟨List.replicate k 0, by simp, HR0.out, gb_alloc _ _ _⟩⟩
        case round =>
          obtain ⟨j, hj, rfl, HF⟩ := hrel
          by_cases hlt : j < k
          · by_cases hbl : 0 < b.length
            · obtain ⟨l', hl', hr', hg'⟩ := HF.out
              obtain ⟨bb, o, rfl, hcs⟩ := HS.out.at hbl
              have hmod : j % b.length < b.length := Nat.mod_lt _ hbl
              obtain ⟨x, hx⟩ : ∃ x, b[j % b.length]? = some x := ⟨_, List.getElem?_eq_getElem hmod⟩
              obtain ⟨y, hy⟩ : ∃ y, l'[j]? = some y := ⟨_, List.getElem?_eq_getElem (by omega)⟩
              have hsrc : wr.cell? ⟨bb, o + j % b.length, none⟩ = some (u8v x) := hg'.cell (hcs _ _ hx) (by simp)
              have hdst : wr.cell? ⟨w.heap.size, j, none⟩ = some (u8v y) := hr'.cell j y hy
              have hfr : wr.frozen? ⟨w.heap.size, j, none⟩ = false := hr'.free j
              have HF' : Hid (Filled w k (wr.setCell ⟨w.heap.size, j, none⟩ (u8v x))) := hid ⟨l'.set j x, by simpa using hl', hr'.setCell j _, gb_new hg' (gb_setCell _ _ _ _) (Nat.le_refl _)⟩
              clear hl' hr' hg' hcs HF hx hy
              unfold u8v at *
              go_wp2
              go_roundw
              case rel => exact ⟨j + 1, by omega, by go_num, HF'⟩
              case measure => simp [RowKit.intOf]; omega
            · go_wp2
              go_ret
              obtain ⟨l', hl', hr', hg'⟩ := HF.out
              exact ⟨l', w.heap.size, by rw [hl']; rfl, by rw [hl']; exact hr', by rw [hl']; exact isK_sz HK.out hk, Nat.le_refl _, hg'⟩
          · go_wp2
            go_ret
            obtain ⟨l', hl', hr', hg'⟩ := HF.out
            exact ⟨l', w.heap.size, by rw [hl']; rfl, by rw [hl']; exact hr', by rw [hl']; exact isK_sz HK.out hk, Nat.le_refl _, hg'⟩
end Go.Proofs.Ytcibjhdkjkhhhaa
