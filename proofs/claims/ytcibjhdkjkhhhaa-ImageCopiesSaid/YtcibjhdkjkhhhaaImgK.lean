/-
  For the statements of layer 2: arguments as bytes; the walks of 'ImageSizes' and 'ImageSingle'. Conditions: those that each theorem names.
-/
import Derived.Test.YtcibjhdkjkhhhaaImgJ
namespace Go.Proofs.Ytcibjhdkjkhhhaa
open Go.RowKit Go.Lib

theorem wf_u32 {a : Int} (h : (Lit.int .u32 a).wf = true) : 0 ≤ a ∧ a < 4294967296 := by
  have hmin : IntKind.u32.min = 0 := rfl
  have hmax : IntKind.u32.max = 4294967295 := rfl
  simp only [Lit.wf, Bool.and_eq_true, decide_eq_true_eq] at h
  omega
theorem wf_u8 {a : Int} (h : (Lit.int .u8 a).wf = true) : 0 ≤ a ∧ a < 256 := by
  have hmin : IntKind.u8.min = 0 := rfl
  have hmax : IntKind.u8.max = 255 := rfl
  simp only [Lit.wf, Bool.and_eq_true, decide_eq_true_eq] at h
  omega
def toByte (n : Int) : UInt8 := UInt8.ofNat n.toNat
theorem toByte_val {n : Int} (h : (Lit.int .u8 n).wf = true) : u8v (toByte n) = .int .u8 n := by
  have := wf_u8 h
  unfold u8v toByte
  rw [UInt8.toNat_ofNat']
  have e : ((n.toNat % 2 ^ 8 : Nat) : Int) = n := by omega
  rw [e]
theorem row_src {w : World} {a : Option Addr} {len cap : Nat} {zs : List Int}
    (h : (a = none ∧ len = 0 ∧ cap = 0 ∧ zs = []) ∨ ∃ x, a = some x ∧ len ≤ cap ∧ cap ≤ maxLen ∧ zs.length = cap ∧ (∀ i, i < zs.length → w.cell? (x.add i) = some (.int .u8 (zs.getD i 0))) ∧ ∀ n ∈ zs, (Lit.int .u8 n).wf = true) :
    ∃ l : List UInt8, l.length = len ∧ Src w a l := by
  rcases h with ⟨rfl, rfl, rfl, rfl⟩ | ⟨x, rfl, h1, h2, h3, h4, h5⟩
  · exact ⟨[], rfl, fun _ => rfl, fun ad e => by cases e⟩
  · refine ⟨(zs.take len).map toByte, by simp; omega, (fun e => by cases e), (fun ad e i y hy => ?_)⟩
    simp only [Option.some.injEq] at e
    subst e
    rw [List.getElem?_map, List.getElem?_take] at hy
    split at hy
    · have hi : i < zs.length := by omega
      rw [List.getElem?_eq_getElem hi] at hy
      simp at hy
      subst hy
      rw [h4 i hi, toByte_val (h5 _ (List.getElem_mem hi))]
      simp [List.getD, hi]
    · cases hy

/-- What a law is asked: true; what was there is as it was. -/
def Ok (w : World) (e : Ending) (w' : World) : Prop := e = .returned (.bool true) ∧ w.grownBy w' none

theorem sizes_walk (n : Int) (w : World) : Calls Try.prog 3 #[.int .i64 n] w (Ok w) := by
  by_cases h : szB n = true
  · obtain ⟨m, rfl, _⟩ := szB_isK h
    have H := hid h; clear h
    go_enter Try.func3, Try.ntmps3
    go_wp2_with fail
    refine (new_ok _ _ H.out).mono ?_; rintro e w1 ⟨rfl, h1, g1⟩
    have H1 := hid h1
    have G1 := hid g1; clear h1 g1
    go_wp2_with fail
    refine (rsize_any _ _).mono ?_; rintro e w' ⟨rfl, rfl⟩
    have hb : szB (m : Int) = true := H.out
    go_wp2_with fail
    refine (num_any _ _).mono ?_; rintro e w' ⟨rfl, rfl⟩
    go_wp2_with fail
    refine (size_img _ H1.out).mono ?_; rintro e w' ⟨rfl, rfl⟩
    rw [List.length_replicate]
    go_wp2_with fail
    refine (works_any _).mono ?_; rintro e w2 ⟨rfl, g2⟩
    go_wp2_with fail
    go_ret
    exact ⟨rfl, gb_trans G1.out g2⟩
  · have h' : szB n = false := by simpa using h
    have H := hid h'; clear h h'
    go_enter Try.func3, Try.ntmps3
    go_wp2_with fail
    refine (new_no _ _ H.out).mono ?_; rintro e w' ⟨rfl, rfl⟩
    go_wp2_with fail
    refine (rsize_any _ _).mono ?_; rintro e w' ⟨rfl, rfl⟩
    have hb : szB n = false := H.out
    go_wp2_with fail
    refine (num_any _ _).mono ?_; rintro e w' ⟨rfl, rfl⟩
    go_wp2_with fail
    refine (works_any _).mono ?_; rintro e w2 ⟨rfl, g2⟩
    go_wp2_with fail
    go_ret
    exact ⟨rfl, g2⟩

theorem single_big {b : List UInt8} (a : Option Addr) (c : Nat) (wide x : Int) (w : World) (hb : 10000 < b.length) (hm : b.length ≤ maxLen) : Calls Try.prog 4 #[.slice a b.length c, .int .i64 wide, .int .u32 x] w (Ok w) := by
  unfold maxLen at hm
  go_enter Try.func4, Try.ntmps4
  go_wp2_with (go_at_call 12; refine (works_any _).mono ?_; rintro e w2 ⟨rfl, g2⟩)
  go_ret
  exact ⟨rfl, g2⟩
theorem single_walk {b : List UInt8} (a : Option Addr) (c : Nat) (wide : Int) (x : Nat) (hx : x < 4294967296) (w : World) (hs : Src w a b) (hb : b.length ≤ 10000) : Calls Try.prog 4 #[.slice a b.length c, .int .i64 wide, .int .u32 (x : Int)] w (Ok w) := by
  have HS := hid hs; clear hs
  go_enter Try.func4, Try.ntmps4
  go_wp2_with fail
  refine (sized_any _ _ _ _ HS.out hb).mono ?_; rintro e w1 ⟨l, g, rfl, hr, hsz, hg, hgb⟩
  have hlen := szB_le hsz
  have HR := hid hr
  have HZ := hid hsz
  have HG := hid hgb
  clear hr hsz hgb
  go_wp2_with fail
  refine (of_ok _ _ _ HZ.out HR.out.src).mono ?_; rintro e w2 ⟨rfl, hi, hgb⟩
  have HI := hid hi
  have HR2 := hid (HR.out.grown hgb (by simp))
  have HG2 := hid (gb_trans HG.out hgb)
  clear hi hgb HR HG
  by_cases hxl : l.length ≤ x
  · have hrf : refused l.length x 1 = 4 := by unfold refused; rw [if_neg (by omega), if_neg (by simp; omega), if_pos hxl]
    have hrd := read_no x 1 w2 HI.out (by omega) (by rw [hrf]; omega)
    rw [hrf] at hrd
    have HRD := hid hrd
    clear hrf hrd
    go_wp2_with fail
    refine HRD.out.mono ?_; rintro e w3 ⟨rfl, g3⟩
    have HG3 := hid (gb_trans HG2.out g3); clear g3
    go_wp2_with (first | (go_at_call 11; refine (num_any _ _).mono ?_; rintro e w' ⟨rfl, rfl⟩) | (go_at_call 12; refine (works_any _).mono ?_; rintro e w4 ⟨rfl, g4⟩))
    go_ret
    exact ⟨rfl, gb_trans HG3.out g4⟩
  · have hrd := read_ok x 1 w2 HI.out (by omega) (by omega) (by omega) (by omega)
    obtain ⟨y, hy⟩ : ∃ y, l[x]? = some y := ⟨_, List.getElem?_eq_getElem (by omega)⟩
    have e1 : leV ((l.drop x).take 1) = (y.toNat : Int) := by
      rw [leV_cons l x 0 y hy]
      simp [leV]
    rw [e1] at hrd
    have HRD := hid hrd
    have hyb := y.toNat_lt
    have HY := hid hy
    clear hrd e1 hy
    go_wp2_with fail
    refine HRD.out.mono ?_; rintro e w3 ⟨rfl, g3⟩
    have hcell : w3.cell? ⟨g, x, none⟩ = some (u8v y) := g3.cell (HR2.out.cell x y HY.out) (by simp)
    unfold u8v at hcell
    have HG3 := hid (gb_trans HG2.out g3); clear g3
    go_wp2_with (first | (go_at_call 11; refine (num_any _ _).mono ?_; rintro e w' ⟨rfl, rfl⟩) | (go_at_call 12; refine (works_any _).mono ?_; rintro e w4 ⟨rfl, g4⟩))
    go_ret
    exact ⟨rfl, gb_trans HG3.out g4⟩
end Go.Proofs.Ytcibjhdkjkhhhaa
