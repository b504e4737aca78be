/-
  Contracts of the layer 'image', the third part: 'New', 'Of', 'Size', 'Bytes', 'Copy', 'Same'. Conditions: those that each theorem names.
-/
import Derived.Test.YtcibjhdkjkhhhaaImgC
import Derived.Laws.CopyOwn
import Derived.Lib.SliceRun
import Derived.Shelf.Bytes.SlEqualAll
namespace Go.Proofs.Ytcibjhdkjkhhhaa
open Go.RowKit Go.Lib

/-! ### Which sizes an image may have -/
def szN (n : Nat) : Bool := n == 16 || n == 32 || n == 64 || n == 128 || n == 256 || n == 512 || n == 1024 || n == 2048 || n == 4096
def szB (n : Int) : Bool := 0 ≤ n && szN n.toNat
theorem and_nat2 : ∀ a : Fin 65, ∀ b : Fin 64, 16 ≤ 64 * a.val + b.val → 64 * a.val + b.val ≤ 4096 → ((64 * a.val + b.val) &&& (64 * a.val + b.val - 1) != 0) = !szN (64 * a.val + b.val) := by decide +kernel
theorem and_nat (n : Nat) (h : 16 ≤ n) (h2 : n ≤ 4096) : (n &&& (n - 1) != 0) = !szN n := by
  have h3 := and_nat2 ⟨n / 64, by omega⟩ ⟨n % 64, by omega⟩
  simp only at h3
  rw [show 64 * (n / 64) + n % 64 = n from by omega] at h3
  exact h3 h h2
theorem i64_and_nat (a b : Nat) (ha : a < 4294967296) (hb : b < 4294967296) : bits .and .i64 (a : Int) (b : Int) = ((a &&& b : Nat) : Int) := by
  have h1 : (BitVec.ofInt 64 (a : Int)).toNat = a := by rw [BitVec.ofInt_natCast, BitVec.toNat_ofNat]; exact Nat.mod_eq_of_lt (by omega)
  have h2 : (BitVec.ofInt 64 (b : Int)).toNat = b := by rw [BitVec.ofInt_natCast, BitVec.toNat_ofNat]; exact Nat.mod_eq_of_lt (by omega)
  have h3 : a &&& b ≤ a := Nat.and_le_left
  show IntKind.i64.wrap ((BitVec.ofInt 64 (a : Int) &&& BitVec.ofInt 64 (b : Int)).toNat : Int) = _
  rw [BitVec.toNat_and, h1, h2, IntKind.wrap_i64]
  omega
theorem and_test (n : Int) (h0 : 16 ≤ n) (h1 : n ≤ 4096) : (bits .and .i64 n (n - 1) != 0) = !szB n := by
  obtain ⟨m, rfl⟩ : ∃ m : Nat, n = m := ⟨n.toNat, by omega⟩
  have e : (m : Int) - 1 = ((m - 1 : Nat) : Int) := by omega
  rw [e, i64_and_nat m (m - 1) (by omega) (by omega)]
  have h := and_nat m (by omega) (by omega)
  unfold szB
  simp only [Int.toNat_natCast] at *
  have h2 : decide (0 ≤ (m : Int)) = true := by simp
  rw [h2, Bool.true_and, ← h]
  rw [Bool.eq_iff_iff]
  simp
theorem szB_range (n : Int) (h : n < 16 ∨ 4096 < n) : szB n = false := by
  unfold szB szN
  rw [Bool.eq_false_iff]
  intro e
  simp at e
  omega
theorem szB_le {n : Nat} (h : szB (n : Int) = true) : 16 ≤ n ∧ n ≤ 4096 ∧ n % 16 = 0 := by
  unfold szB szN at h
  simp at h
  omega

/-! ### New memory -/
def zeros (n : Nat) : Array Value := madeCells #[.int .u8 0] n
theorem zeros_row (w : World) (n : Nat) (h : n ≤ 4096) : Row (w.alloc (.cells (zeros n) 5)) w.heap.size n (List.replicate n 0) := by
  refine ⟨zeros n, heap_alloc_new w _, size_madeCells _ _, by simp, by unfold maxLen; omega, ?_⟩
  apply List.ext_getElem?
  intro i
  simp only [zeros, madeCells, List.length_replicate, List.getElem?_take, Array.toList_map, Array.toList_range, List.getElem?_map, List.map_replicate, List.getElem?_replicate]
  by_cases hi : i < n
  · simp [hi, u8v, Nat.mod_one]
  · simp [hi]
theorem info5 : (Try.prog.info? 5).map (fun i => (i.zero, i.size, i.bytes)) = some (some (.int .u8 0), 1, 1) := by kernel_rfl
theorem make8 (w : World) (n : Nat) (h : n ≤ 4096) : (Instr.makeSlice 30 (.int .i64 (n : Int)) (.int .i64 (n : Int))).run Try.prog w = .ok (.slice (some ⟨w.heap.size, 0, none⟩) n n) (w.alloc (.cells (zeros n) 5)) := by
  obtain ⟨i0, hi, hz0, hz1, hz2⟩ := info_parts info5
  have hr := run_make (P := Try.prog) w 30 5 i0 (.int .u8 0) Try.underlying30 hi hz0 .i64 .i64 n n (by omega) (by omega) (by rw [hz2]; omega) (by omega)
  rw [hz1, Int.toNat_natCast, Nat.mul_one] at hr
  exact hr

/-! ### 'New' -/
theorem new_no (n : Int) (w : World) (h : szB n = false) : Calls Try.prog 9 #[.int .i64 n] w fun e w' => e = .returned (.tuple #[.pointer none, .int .i64 2]) ∧ w = w' := by
  by_cases h0 : n < 16
  · go_enter Try.func9, Try.ntmps9
    go_wp2
    go_ret2
    exact ⟨rfl, rfl⟩
  · by_cases h1 : 4096 < n
    · go_enter Try.func9, Try.ntmps9
      go_wp2
      go_ret2
      exact ⟨rfl, rfl⟩
    · have ht := and_test n (by omega) (by omega)
      rw [h] at ht
      have hn : (bits .and .i64 n (n - 1) != 0) = true := ht
      clear ht h
      go_enter Try.func9, Try.ntmps9
      go_wp2
      go_ret2
      exact ⟨rfl, rfl⟩
theorem new_ok (n : Nat) (w : World) (h : szB (n : Int) = true) : Calls Try.prog 9 #[.int .i64 (n : Int)] w fun e w' => e = .returned (.tuple #[.pointer (some ⟨w.heap.size + 1, 0, none⟩), .int .i64 0]) ∧ Img w' (w.heap.size + 1) w.heap.size n (List.replicate n 0) ∧ w.grownBy w' none := by
  have hl := szB_le h
  have hmk := make8 w n hl.2.1
  have ht := and_test n (by omega) (by omega)
  rw [h] at ht
  have hn : (bits .and .i64 (n : Int) ((n : Int) - 1) != 0) = false := ht
  clear ht h
  have hr := zeros_row w n hl.2.1
  have HR := hid hr; clear hr
  go_enter Try.func9, Try.ntmps9
  go_wp2
  go_ret2
  refine ⟨rfl, ⟨?_, ?_, by omega⟩, gb_trans (gb_alloc _ _ _) (gb_alloc _ _ _)⟩
  · have h1 := heap_alloc_new (w.alloc (.cells (zeros n) 5)) (.cells #[.slice (some ⟨w.heap.size, 0, none⟩) n n] 55)
    have e : (w.alloc (.cells (zeros n) 5)).heap.size = w.heap.size + 1 := by simp
    rw [e] at h1
    simpa using h1
  · exact HR.out.grown (gb_alloc _ _ none) (by simp)

/-! ### 'Size' -/
theorem size_nil (w : World) : Calls Try.prog 13 #[.pointer none] w fun e w' => e = .returned (.int .i64 0) ∧ w = w' := by
  go_enter Try.func13, Try.ntmps13
  go_wp2
  go_ret
  exact ⟨rfl, rfl⟩
theorem size_img {p g cap : Nat} {l : List UInt8} (w : World) (h : Img w p g cap l) : Calls Try.prog 13 #[.pointer (some ⟨p, 0, none⟩)] w fun e w' => e = .returned (.int .i64 (l.length : Int)) ∧ w = w' := by
  have hc := h.cell
  clear h
  go_enter Try.func13, Try.ntmps13
  go_wp2
  go_ret
  exact ⟨rfl, rfl⟩

/-! ### 'copy' of bytes -/
/-- What a slice of bytes leads to: its bytes are l. -/
def Src (w : World) (a : Option Addr) (l : List UInt8) : Prop := (a = none → l = []) ∧ ∀ ad, a = some ad → ∀ (i : Nat) (x : UInt8), l[i]? = some x → w.cell? (ad.add i) = some (u8v x)
theorem RowT.src {t : TypeId} {w : World} {g cap : Nat} {l : List UInt8} (h : RowT t w g cap l) : Src w (some ⟨g, 0, none⟩) l :=
  ⟨(fun e => by cases e), (fun ad e i x hx => by
    simp only [Option.some.injEq] at e
    subst e
    have hadd : (⟨g, 0, none⟩ : Addr).add i = ⟨g, i, none⟩ := by unfold Addr.add; split <;> simp_all
    rw [hadd]
    exact h.cell i x hx)⟩
theorem Src.lt {w : World} {a : Option Addr} {l : List UInt8} (h : Src w a l) {ad : Addr} (e : a = some ad) (hl : l ≠ []) : (ad.add 0).block < w.heap.size := by
  cases l with
  | nil => exact absurd rfl hl
  | cons x r => exact World.block_lt_of_cell? w _ (h.2 ad e 0 x rfl)
theorem Src.kept {w w' : World} {a : Option Addr} {l : List UInt8} (h : Src w a l) (k : w.grownBy w' none) : Src w' a l :=
  ⟨h.1, fun ad e i x hx => k.cell (h.2 ad e i x hx) (by simp)⟩
theorem u8v_one (x : UInt8) : (u8v x).oneCell' = true := rfl
theorem RowT.splice {t : TypeId} {w : World} {g cap : Nat} {l xs : List UInt8} (h : RowT t w g cap l) (off : Nat) (hf : off + xs.length ≤ l.length) (cur : Array Value) (hg : w.heap[g]? = some (.cells cur t (0, 0))) :
    RowT t (w.setRow g (cur.toList.take off ++ (xs.map u8v ++ cur.toList.drop (off + (xs.map u8v).length))).toArray) g cap (putAt l off xs) := by
  obtain ⟨cur', hg', hs, h1, h2, ht⟩ := h
  rw [hg] at hg'
  simp at hg'
  subst hg'
  have hc : cur.toList.length = cap := by simpa using hs
  have hpl := putAt_length l off xs hf
  refine ⟨_, setRow_heap w g _ _ _ _ hg, ?_, by omega, h2, ?_⟩
  · simp; omega
  · rw [hpl]
    have e1 : cur.toList.take off = (l.take off).map u8v := by
      rw [List.map_take, ← ht, List.take_take, Nat.min_eq_left (by omega)]
    have e2 : cur.toList.drop (off + xs.length) = (l.drop (off + xs.length)).map u8v ++ cur.toList.drop l.length := by
      rw [List.map_drop, ← ht]
      have := List.take_append_drop l.length cur.toList
      have e4 : cur.toList.drop (off + xs.length) = (cur.toList.take l.length ++ cur.toList.drop l.length).drop (off + xs.length) := by rw [this]
      rw [e4, List.drop_append_of_le_length (by simp; omega)]
    simp only [List.length_map]
    rw [e1, e2]
    unfold putAt
    have e3 : (List.map u8v (l.take off) ++ (List.map u8v xs ++ (List.map u8v (l.drop (off + xs.length)) ++ cur.toList.drop l.length))) = List.map u8v (l.take off ++ xs ++ l.drop (off + xs.length)) ++ cur.toList.drop l.length := by simp
    show List.take l.length (_ : List Value) = _
    rw [e3, List.take_append_of_le_length (by simp; omega), List.take_of_length_le (by simp; omega)]
theorem wpList_copy_bytes {w : World} {ops : Array Oper} {rest : List Oper} {o : Oper} {a : Act} {Q : Exit → Act → World → Prop} (hgd : o.guard = none) (d s : Operand)
    (ho : o.op = .call { callee := .builtin .copy, args := #[d, s], argTypes := #[30, 30] })
    (g off dLen dCap : Nat) (ad : Addr) (sLen sCap : Nat) (hd : a.eval d = .slice (some ⟨g, off, none⟩) dLen dCap) (hs : a.eval s = .slice (some ad) sLen sCap)
    {t : TypeId} {cap : Nat} {l : List UInt8} (hr : RowT t w g cap l) (xs : List UInt8) (hn : xs.length = Nat.min sLen dLen) (hsrc : ∀ (i : Nat) (x : UInt8), xs[i]? = some x → w.cell? (ad.add i) = some (u8v x)) (hf : off + xs.length ≤ l.length)
    (h : ∀ w', RowT t w' g cap (putAt l off xs) → w.grownBy w' (some g) → wpList Try.prog ops Q rest (a.put o.dst (goInt xs.length)) w') :
    wpList Try.prog ops Q (o :: rest) a w := by
  obtain ⟨cur, hg, hsz, h1, h2, ht⟩ := id hr
  have hlen : (xs.map u8v).length = xs.length := by simp
  refine wpList_copy_own hgd d s _ _ ho 5 Try.underlying30 (by kernel_rfl) g off dLen dCap ad sLen sCap hd hs cur t hg (xs.map u8v) (by rw [hlen]; exact hn) ?_ (by rw [hlen]; omega) ?_ ?_
  · intro j v hv
    rw [List.getElem?_map] at hv
    cases hx : xs[j]? with
    | none => rw [hx] at hv; cases hv
    | some x =>
      rw [hx] at hv
      simp at hv
      subst hv
      exact hsrc j x hx
  · intro v hv
    obtain ⟨x, _, rfl⟩ := List.mem_map.1 hv
    exact u8v_one x
  · rw [hlen]
    have := h _ (hr.splice off hf cur hg) ⟨rfl, rfl, rfl, by simp [World.setRow], fun k _ hn => setRow_other w g k _ (fun e => hn (by rw [e]))⟩
    rw [hlen] at this
    exact this
end Go.Proofs.Ytcibjhdkjkhhhaa
