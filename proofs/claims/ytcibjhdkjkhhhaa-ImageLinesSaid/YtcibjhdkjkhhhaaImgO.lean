/-
  For the statements of layer 2: sixteen bytes by value, as an argument that is judged. Conditions: those that each theorem names.
-/
import Derived.Test.YtcibjhdkjkhhhaaImgN
import Derived.OpenShut
import Derived.Lib.SmallJoins
namespace Go.Proofs.Ytcibjhdkjkhhhaa
open Go.RowKit Go.ChangeShapes Go.WideShapes Go.ChangeAt

def ofCell : Value → UInt8
  | .int _ n => toByte n
  | _ => 0
theorem open_arr {H : Type} {enc : TypeId × Value → H} {W : World} {base : Nat} {spare : Nat → Bool} {held : Bool} {r : Reach} {b0 : Nat} {v : Value} {d : DataW H} {p : List MemPlace}
    (hv : Value.okWide Try.prog W r b0 46 v) (h : DataW.Trod enc Try.prog W base spare held 46 v d p) : ∃ m : List UInt8, m.length = 16 ∧ v = arr m := by
  unfold Value.okWide at hv
  rw [Try.underlying46] at hv
  obtain ⟨cs, rfl, hsz, _⟩ := hv
  have hsz' : cs.size = 16 := hsz.trans (by kernel_rfl)
  obtain ⟨fuel, hf⟩ := h
  obtain ⟨xs, m, rfl, hx, hl, hxl, hall⟩ := DataW.trod_array Try.underlying46 hf
  have he : Try.prog.cellsOf 5 = 1 := by kernel_rfl
  have hcell : ∀ i, i < 16 → ∃ n, cs.toList[i]? = some (.int .u8 n) ∧ (Lit.int .u8 n).wf = true := by
    intro i hi
    have h1 := hall i hi
    rw [he, Nat.mul_one] at h1
    have hi' : i < cs.toList.length := by simp; omega
    have h2 : ((Value.agg cs).cells.toList.drop i).take 1 = [cs.toList[i]] := by
      show (cs.toList.drop i).take 1 = _
      rw [List.drop_eq_getElem_cons hi']; rfl
    rw [h2, List.getElem?_eq_getElem (by omega)] at h1
    obtain ⟨n, g, _, wf⟩ := DataW.trod_int Try.underlying5 h1
    refine ⟨n, ?_, wf⟩
    rw [List.getElem?_eq_getElem hi']
    simpa using g
  refine ⟨cs.toList.map ofCell, by simpa using hsz', ?_⟩
  unfold arr bcells
  congr 1
  apply Array.ext'
  apply List.ext_getElem?
  intro i
  show cs.toList[i]? = ((cs.toList.map ofCell).map u8v)[i]?
  rw [List.getElem?_map, List.getElem?_map]
  by_cases hi : i < 16
  · obtain ⟨n, hn, wf⟩ := hcell i hi
    rw [hn]
    show some (Value.int .u8 n) = some (u8v (toByte n))
    rw [toByte_val wf]
  · rw [List.getElem?_eq_none (by simp; omega)]; rfl
end Go.Proofs.Ytcibjhdkjkhhhaa
