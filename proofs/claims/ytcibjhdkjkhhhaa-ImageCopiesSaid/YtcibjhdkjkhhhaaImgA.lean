/-
  Plain facts for the layer 'image': bytes as values, numbers out of bytes, blocks of bytes in memory, and an image in memory. No condition beyond those that each lemma names.
-/
import Derived.Below
import Derived.OneCell
import Derived.Laws.AppendOwn
import Derived.Laws.BitsAllLaws
import Derived.Deep.Draws
namespace Go.Proofs.Ytcibjhdkjkhhhaa
open Go.RowKit

/-- A byte as a value. -/
def u8v (x : UInt8) : Value := .int .u8 (x.toNat : Int)

/-- The number that bytes are, the lowest one ahead. -/
def leV : List UInt8 → Int
  | [] => 0
  | b :: r => (b.toNat : Int) + 256 * leV r

/-- 256 to the power of a number. -/
def p256 : Nat → Int
  | 0 => 1
  | n + 1 => 256 * p256 n
theorem p256_pos : ∀ n, 1 ≤ p256 n
  | 0 => by decide
  | n + 1 => by have := p256_pos n; simp only [p256]; omega
theorem leV_bd : ∀ l : List UInt8, 0 ≤ leV l ∧ leV l < p256 l.length
  | [] => by simp [leV, p256]
  | b :: r => by
    have h := leV_bd r
    have hb := b.toNat_lt
    simp only [leV, List.length_cons, p256]
    omega
theorem leV_snoc (l : List UInt8) (b : UInt8) : leV (l ++ [b]) = leV l + p256 l.length * (b.toNat : Int) := by
  induction l with
  | nil => simp [leV, p256]
  | cons x r ih =>
    simp only [List.cons_append, leV, ih, List.length_cons, p256]
    rw [Int.mul_add, Int.mul_assoc, Int.add_assoc]
theorem p256_two (k : Nat) : p256 k = ((2 ^ (8 * k) : Nat) : Int) := by
  induction k with
  | zero => rfl
  | succ k ih =>
    have e : 2 ^ (8 * (k + 1)) = 256 * 2 ^ (8 * k) := by rw [Nat.mul_succ, Nat.pow_add, Nat.mul_comm]
    simp only [p256, ih, e]
    omega
theorem p256_mono (a d : Nat) : p256 a ≤ p256 (a + d) := by
  induction d with
  | zero => exact Int.le_refl _
  | succ d ih => have := p256_pos (a + d); rw [← Nat.add_assoc]; simp only [p256]; omega

/-- One byte more: what 'or' makes of the number so far and the byte, moved up. -/
theorem or_step (l : List UInt8) (b : UInt8) (h : l.length ≤ 3) : bits .or .u32 (leV l) ((b.toNat : Int) * 2 ^ (8 * l.length) % 4294967296) = leV (l ++ [b]) := by
  have hb := b.toNat_lt
  have hl := leV_bd l
  have hp := p256_pos l.length
  have h3 : p256 3 = 16777216 := by decide
  have hm : p256 l.length ≤ 16777216 := by
    have := p256_mono l.length (3 - l.length)
    rw [show l.length + (3 - l.length) = 3 from by omega, h3] at this
    exact this
  rw [leV_snoc]
  have e2 : (2 : Int) ^ (8 * l.length) = p256 l.length := by rw [p256_two]; simp
  rw [e2]
  have hc : 0 ≤ p256 l.length * (b.toNat : Int) ∧ p256 l.length * (b.toNat : Int) ≤ 16777216 * 255 :=
    ⟨Int.mul_nonneg (by omega) (by omega), Int.mul_le_mul hm (by omega) (by omega) (by omega)⟩
  rw [Int.mul_comm (b.toNat : Int)]
  rw [Int.emod_eq_of_lt hc.1 (by omega)]
  have hx : ∃ x : Nat, leV l = x := ⟨(leV l).toNat, by omega⟩
  obtain ⟨x, hx⟩ := hx
  have hy : p256 l.length * (b.toNat : Int) = ((2 ^ (8 * l.length) * b.toNat : Nat) : Int) := by rw [p256_two, Int.natCast_mul]
  rw [hx, hy]
  rw [hy] at hc
  rw [hx] at hl
  have hl2 : (x : Int) < ((2 ^ (8 * l.length) : Nat) : Int) := by rw [← p256_two]; exact hl.2
  rw [u32_or_nat x _ (by omega) (by omega), Nat.or_comm, nat_join (8 * l.length) _ _ (Nat.mul_mod_right _ _) (by omega)]
  omega

/-- Byte i of a number. -/
def byteAt (v : Int) (i : Nat) : UInt8 := UInt8.ofNat (v / p256 i % 256).toNat
theorem byteAt_val (v : Int) (i : Nat) : ((byteAt v i).toNat : Int) = v / p256 i % 256 := by
  unfold byteAt
  rw [UInt8.toNat_ofNat']
  omega
/-- The lowest n bytes of a number. -/
def wrV (v : Int) : Nat → List UInt8
  | 0 => []
  | n + 1 => wrV v n ++ [byteAt v n]
theorem wrV_length (v : Int) : ∀ n, (wrV v n).length = n
  | 0 => rfl
  | n + 1 => by simp [wrV, wrV_length v n]

/-- l with the bytes from place i on set. -/
def putAt (l : List UInt8) (i : Nat) (x : List UInt8) : List UInt8 := l.take i ++ x ++ l.drop (i + x.length)
theorem putAt_length (l : List UInt8) (i : Nat) (x : List UInt8) (h : i + x.length ≤ l.length) : (putAt l i x).length = l.length := by
  unfold putAt; simp; omega
theorem putAt_nil (l : List UInt8) (i : Nat) : putAt l i [] = l := by unfold putAt; simp
theorem putAt_snoc (l : List UInt8) (i : Nat) (x : List UInt8) (b : UInt8) (h : i + x.length < l.length) : (putAt l i x).set (i + x.length) b = putAt l i (x ++ [b]) := by
  unfold putAt
  apply List.ext_getElem?
  intro j
  simp only [List.getElem?_set, List.getElem?_append, List.getElem?_take, List.getElem?_drop, List.length_append, List.length_take, List.length_drop, List.length_cons, List.length_nil, Nat.min_def]
  by_cases h1 : j < i
  · simp [h1, show ¬ i + x.length = j from by omega, show i ≤ l.length from by omega, show j < i + x.length from by omega, show j < i + (x.length + 1) from by omega]
  · by_cases h2 : j < i + x.length
    · simp [h1, h2, show ¬ i + x.length = j from by omega, show i ≤ l.length from by omega, show j < i + (x.length + 1) from by omega, show j - i < x.length from by omega]
    · by_cases h3 : j = i + x.length
      · subst h3
        simp [show i ≤ l.length from by omega, show i + x.length - i = x.length from by omega, show i + x.length < i + (x.length + 1) from by omega]
        rw [if_pos (by omega), if_neg (by omega)]
      · simp [h2, show ¬ i + x.length = j from by omega, show i ≤ l.length from by omega, show ¬ j < i + (x.length + 1) from by omega]
        congr 1
        omega

/-! ### Blocks of bytes -/
/-- Block g, of elements of type t, holds cap bytes, of which the first ones are l. -/
def RowT (t : TypeId) (w : World) (g cap : Nat) (l : List UInt8) : Prop :=
  ∃ cur, w.heap[g]? = some (.cells cur t (0, 0)) ∧ cur.size = cap ∧ l.length ≤ cap ∧ cap ≤ maxLen ∧ cur.toList.take l.length = l.map u8v
/-- .. of bytes. -/
abbrev Row (w : World) (g cap : Nat) (l : List UInt8) : Prop := RowT 5 w g cap l
/-- An image at p, its bytes in block g. -/
def Img (w : World) (p g cap : Nat) (l : List UInt8) : Prop :=
  w.heap[p]? = some (.cells #[.slice (some ⟨g, 0, none⟩) l.length cap] 55 (0, 0)) ∧ Row w g cap l ∧ p ≠ g

theorem RowT.lt {t : TypeId} {w : World} {g cap : Nat} {l : List UInt8} (h : RowT t w g cap l) : g < w.heap.size := by
  obtain ⟨_, h, _⟩ := h; exact lt_of_block h
theorem Img.lt {w : World} {p g cap : Nat} {l : List UInt8} (h : Img w p g cap l) : p < w.heap.size ∧ g < w.heap.size := ⟨lt_of_block h.1, h.2.1.lt⟩
theorem RowT.len {t : TypeId} {w : World} {g cap : Nat} {l : List UInt8} (h : RowT t w g cap l) : l.length ≤ cap ∧ cap ≤ maxLen := by
  obtain ⟨_, _, _, h1, h2, _⟩ := h; exact ⟨h1, h2⟩
theorem RowT.cell {t : TypeId} {w : World} {g cap : Nat} {l : List UInt8} (h : RowT t w g cap l) (i : Nat) (x : UInt8) (hx : l[i]? = some x) : w.cell? ⟨g, i, none⟩ = some (u8v x) := by
  obtain ⟨cur, hg, hs, h1, _, ht⟩ := h
  have hi : i < l.length := (List.getElem?_eq_some_iff.1 hx).1
  have e := congrArg (fun t : List Value => t[i]?) ht
  simp only [List.getElem?_take, if_pos hi, List.getElem?_map, hx, Option.map_some] at e
  simpa [World.cell?, hg] using e
theorem RowT.free {t : TypeId} {w : World} {g cap : Nat} {l : List UInt8} (h : RowT t w g cap l) (i : Nat) : w.frozen? ⟨g, i, none⟩ = false := by
  obtain ⟨cur, hg, _⟩ := h
  simp [World.frozen?, hg]
theorem Img.cell {w : World} {p g cap : Nat} {l : List UInt8} (h : Img w p g cap l) : w.cell? ⟨p, 0, none⟩ = some (.slice (some ⟨g, 0, none⟩) l.length cap) := cell_of_one h.1
theorem Img.free {w : World} {p g cap : Nat} {l : List UInt8} (h : Img w p g cap l) : w.frozen? ⟨p, 0, none⟩ = false := free_of_one h.1
theorem RowT.of_block {t : TypeId} {w w' : World} {g cap : Nat} {l : List UInt8} (h : RowT t w g cap l) (e : w'.heap[g]? = w.heap[g]?) : RowT t w' g cap l := by
  obtain ⟨cur, hg, r⟩ := h
  exact ⟨cur, by rw [e]; exact hg, r⟩
theorem Img.of_blocks {w w' : World} {p g cap : Nat} {l : List UInt8} (h : Img w p g cap l) (e : w'.heap[p]? = w.heap[p]?) (e2 : w'.heap[g]? = w.heap[g]?) : Img w' p g cap l := ⟨by rw [e]; exact h.1, h.2.1.of_block e2, h.2.2⟩
theorem RowT.grown {t : TypeId} {w w' : World} {g cap : Nat} {l : List UInt8} {row : Option Nat} (h : RowT t w g cap l) (k : w.grownBy w' row) (hne : some g ≠ row) : RowT t w' g cap l := h.of_block (k.block g h.lt hne)
theorem Img.grown {w w' : World} {p g cap : Nat} {l : List UInt8} {row : Option Nat} (h : Img w p g cap l) (k : w.grownBy w' row) (hp : some p ≠ row) (hg : some g ≠ row) : Img w' p g cap l :=
  h.of_blocks (k.block p h.lt.1 hp) (k.block g h.lt.2 hg)

/-! ### How worlds go on -/
theorem gb_refl (w : World) (row : Option Nat) : w.grownBy w row := ⟨rfl, rfl, rfl, Nat.le_refl _, fun _ _ _ => rfl⟩
theorem gb_trans {a b c : World} {row : Option Nat} (h : a.grownBy b row) (k : b.grownBy c row) : a.grownBy c row :=
  ⟨k.os.trans h.os, k.tape.trans h.tape, k.output.trans h.output, Nat.le_trans h.size k.size, fun i hi hn => (k.block i (Nat.lt_of_lt_of_le hi h.size) hn).trans (h.block i hi hn)⟩
theorem gb_some {a b : World} (h : a.grownBy b none) (row : Option Nat) : a.grownBy b row := ⟨h.os, h.tape, h.output, h.size, fun i hi _ => h.block i hi (by simp)⟩
theorem gb_alloc (w : World) (o : Obj) (row : Option Nat) : w.grownBy (w.alloc o) row := World.grownBy_alloc w o row
theorem gb_drewN (w : World) (n : Nat) (row : Option Nat) : w.grownBy (w.drewN n) row := ⟨rfl, rfl, rfl, Nat.le_refl _, fun _ _ _ => rfl⟩
theorem gb_drew (w : World) (row : Option Nat) : w.grownBy w.drew row := ⟨rfl, rfl, rfl, Nat.le_refl _, fun _ _ _ => rfl⟩
theorem gb_setCell (w : World) (g o : Nat) (v : Value) : w.grownBy (w.setCell ⟨g, o, none⟩ v) (some g) :=
  ⟨rfl, rfl, rfl, by simp [World.setCell], fun k _ hn => Below.heap_setCell _ _ _ _ (fun e => hn (by rw [e]))⟩
/-- What lies in blocks that came later need not be told. -/
theorem gb_new {a b c : World} {g : Nat} (h : a.grownBy b none) (k : b.grownBy c (some g)) (hg : a.heap.size ≤ g) : a.grownBy c none :=
  ⟨k.os.trans h.os, k.tape.trans h.tape, k.output.trans h.output, Nat.le_trans h.size k.size, fun i hi _ => (k.block i (Nat.lt_of_lt_of_le hi h.size) (fun e => by simp at e; omega)).trans (h.block i hi (by simp))⟩
theorem gb_below {B : Nat} {a b : World} (h : a.grownBy b none) (hB : B ≤ a.heap.size) : Below B a b := ⟨h.os, h.tape, h.output, h.size, fun i hi => h.block i (Nat.lt_of_lt_of_le hi hB) (by simp)⟩
theorem gb_below_at {B g : Nat} {a b : World} (h : a.grownBy b (some g)) (hB : B ≤ a.heap.size) (hg : B ≤ g) : Below B a b :=
  ⟨h.os, h.tape, h.output, h.size, fun i hi => h.block i (Nat.lt_of_lt_of_le hi hB) (fun e => by simp at e; omega)⟩
/-- A byte that is set. -/
theorem RowT.setCell {t : TypeId} {w : World} {g cap : Nat} {l : List UInt8} (h : RowT t w g cap l) (i : Nat) (x : UInt8) : RowT t (w.setCell ⟨g, i, none⟩ (u8v x)) g cap (l.set i x) := by
  obtain ⟨cur, hg, hs, h1, h2, ht⟩ := h
  have hlt := lt_of_block hg
  have h' : w.heap[g] = .cells cur t (0, 0) := by simpa [Array.getElem?_eq_getElem hlt] using hg
  refine ⟨cur.setIfInBounds i (u8v x), ?_, by simpa using hs, by simpa using h1, h2, ?_⟩
  · show (w.heap.modify g _)[g]? = _
    rw [Array.getElem?_eq_getElem (by simpa using hlt), Array.getElem_modify_self, h']
    rfl
  · rw [Array.toList_setIfInBounds, List.length_set, List.take_set, ht, List.map_set]
end Go.Proofs.Ytcibjhdkjkhhhaa
