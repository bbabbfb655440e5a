/- How tight a sign binds, walked. -/
import Derived.Test.YtgdamcmfdhhheaaGreatDoorMA1
import Derived.Test.YtgdamcmfdhhheaaGreatDoorShelf
import Derived.Deep.LoopGhost
import Derived.Deep.RegionHeld2
import Derived.OneCell
import Derived.Deep.AppendLies
set_option linter.all false

namespace Go.Proofs.YtgdamcmfdhhheaaGreatDoor
open Go.RowKit Bf

def pile (w : World) : List Obj → World
  | [] => w
  | o :: os => pile (w.alloc o) os

theorem size_alloc1 (w : World) (o : Obj) : (w.alloc o).heap.size = w.heap.size + 1 := Array.size_push ..

theorem alloc_old (w : World) (o : Obj) (i : Nat) (h : i < w.heap.size) : (w.alloc o).heap[i]? = w.heap[i]? := by
  show (w.heap.push o)[i]? = _
  rw [Array.getElem?_push, if_neg (Nat.ne_of_lt h)]

theorem pile_old (os : List Obj) : ∀ (w : World) (i : Nat), i < w.heap.size → (pile w os).heap[i]? = w.heap[i]? := by
  induction os with
  | nil => intro w i _; rfl
  | cons o os ih => intro w i h; rw [pile, ih _ i (by rw [size_alloc1]; omega), alloc_old w o i h]

theorem pile_get (os : List Obj) : ∀ (w : World) (i : Nat) (o : Obj), os[i]? = some o → (pile w os).heap[w.heap.size + i]? = some o := by
  induction os with
  | nil => intro w i o h; simp at h
  | cons o' os ih =>
    intro w i o h
    cases i with
    | zero =>
      simp at h
      subst h
      rw [pile, pile_old os _ _ (by rw [size_alloc1]; omega)]
      show (w.heap.push o')[w.heap.size + 0]? = _
      rw [Array.getElem?_push, if_pos (by rfl)]
    | succ i =>
      have := ih (w.alloc o') i o (by simpa using h)
      have e : (w.alloc o').heap.size + i = w.heap.size + (i + 1) := by rw [size_alloc1]; omega
      rw [e] at this
      exact this

theorem pile_below (os : List Obj) (B : Nat) : ∀ (w w0 : World), Below B w0 w → B ≤ w.heap.size → Below B w0 (pile w os) := by
  induction os with
  | nil => intro w w0 h _; exact h
  | cons o os ih => intro w w0 h hb; exact ih _ _ (h.alloc hb o) (by rw [size_alloc1]; omega)

theorem containsS_map (zs : List (List UInt8)) (x : List UInt8) : Lib.containsS (zs.map fun l => ⟨l.toArray⟩) ⟨x.toArray⟩ = zs.contains x := by
  rw [Bool.eq_iff_iff, Lib.containsS_iff]
  simp

theorem row_calls (W : World) (b : Nat) (zs : List (List UInt8)) (x : List UInt8) (hl : zs.length ≤ 20) (h : ∀ (j : Nat) (z : List UInt8), zs[j]? = some z → W.cell? ⟨b, j, none⟩ = some (.string ⟨z.toArray⟩)) :
    Calls Tryz.prog 128 #[.slice (some ⟨b, 0, none⟩) zs.length zs.length, .string ⟨x.toArray⟩] W fun e w' => e = .returned (.bool (zs.contains x)) ∧ w' = W := by
  have := Tryz.slices_Contains_string b 0 zs.length zs.length (zs.map fun l => ⟨l.toArray⟩) ⟨x.toArray⟩ W (by simp) (by omega) (fun j hj => by
    have hj' : j < zs.length := by simpa using hj
    rw [Nat.zero_add, h j zs[j] (List.getElem?_eq_getElem hj')]
    congr 2
    simp [List.getD, hj'])
  rw [List.take_of_length_le (by simp), containsS_map] at this
  exact this

structure TRows (x : List UInt8) (B : Nat) (w0 W : World) : Prop where
  tok : W.cell? ⟨B, 2, none⟩ = some (.string ⟨x.toArray⟩)
  row : ∀ kk, kk < 10 → ∃ b n : Nat, W.cell? ⟨B + 1 + 1 + 1 + 1 + 1 + 1 + 1 + 1 + 1 + 1 + 1, kk, none⟩ = some (.slice (some ⟨b, 0, none⟩) n n) ∧
    Calls Tryz.prog 128 #[.slice (some ⟨b, 0, none⟩) n n, .string ⟨x.toArray⟩] W fun e w' => e = .returned (.bool ((rows.getD kk []).contains x)) ∧ w' = W
  below : Below B w0 W

theorem trows_start (w : World) (k p : Int) (x : List UInt8) (u : Nat) : TRows x w.heap.size w (pile w [
  .cells #[.int .u8 k, .int .i64 p, .string ⟨x.toArray⟩, .float .f64 u] 59,
  .cells #[.string ⟨#[124, 124]⟩] 9,
  .cells #[.string ⟨#[38, 38]⟩] 9,
  .cells #[.string ⟨#[124]⟩] 9,
  .cells #[.string ⟨#[94]⟩] 9,
  .cells #[.string ⟨#[38]⟩] 9,
  .cells #[.string ⟨#[61, 61]⟩, .string ⟨#[33, 61]⟩, .string ⟨#[61, 61, 61]⟩, .string ⟨#[33, 61, 61]⟩] 9,
  .cells #[.string ⟨#[60]⟩, .string ⟨#[62]⟩, .string ⟨#[60, 61]⟩, .string ⟨#[62, 61]⟩, .string ⟨#[105, 110]⟩, .string ⟨#[105, 110, 115, 116, 97, 110, 99, 101, 111, 102]⟩] 9,
  .cells #[.string ⟨#[60, 60]⟩, .string ⟨#[62, 62]⟩, .string ⟨#[62, 62, 62]⟩] 9,
  .cells #[.string ⟨#[43]⟩, .string ⟨#[45]⟩] 9,
  .cells #[.string ⟨#[42]⟩, .string ⟨#[47]⟩, .string ⟨#[37]⟩] 9,
  .cells #[.slice (some ⟨w.heap.size + 1, 0, none⟩) 1 1, .slice (some ⟨w.heap.size + 1 + 1, 0, none⟩) 1 1, .slice (some ⟨w.heap.size + 1 + 1 + 1, 0, none⟩) 1 1, .slice (some ⟨w.heap.size + 1 + 1 + 1 + 1, 0, none⟩) 1 1, .slice (some ⟨w.heap.size + 1 + 1 + 1 + 1 + 1, 0, none⟩) 1 1, .slice (some ⟨w.heap.size + 1 + 1 + 1 + 1 + 1 + 1, 0, none⟩) 4 4, .slice (some ⟨w.heap.size + 1 + 1 + 1 + 1 + 1 + 1 + 1, 0, none⟩) 6 6, .slice (some ⟨w.heap.size + 1 + 1 + 1 + 1 + 1 + 1 + 1 + 1, 0, none⟩) 3 3, .slice (some ⟨w.heap.size + 1 + 1 + 1 + 1 + 1 + 1 + 1 + 1 + 1, 0, none⟩) 2 2, .slice (some ⟨w.heap.size + 1 + 1 + 1 + 1 + 1 + 1 + 1 + 1 + 1 + 1, 0, none⟩) 3 3] 56]) := by
  refine ⟨?_, ?_, pile_below _ _ _ _ (Below.refl _ _) (Nat.le_refl _)⟩
  · have hO := pile_get [
  .cells #[.int .u8 k, .int .i64 p, .string ⟨x.toArray⟩, .float .f64 u] 59,
  .cells #[.string ⟨#[124, 124]⟩] 9,
  .cells #[.string ⟨#[38, 38]⟩] 9,
  .cells #[.string ⟨#[124]⟩] 9,
  .cells #[.string ⟨#[94]⟩] 9,
  .cells #[.string ⟨#[38]⟩] 9,
  .cells #[.string ⟨#[61, 61]⟩, .string ⟨#[33, 61]⟩, .string ⟨#[61, 61, 61]⟩, .string ⟨#[33, 61, 61]⟩] 9,
  .cells #[.string ⟨#[60]⟩, .string ⟨#[62]⟩, .string ⟨#[60, 61]⟩, .string ⟨#[62, 61]⟩, .string ⟨#[105, 110]⟩, .string ⟨#[105, 110, 115, 116, 97, 110, 99, 101, 111, 102]⟩] 9,
  .cells #[.string ⟨#[60, 60]⟩, .string ⟨#[62, 62]⟩, .string ⟨#[62, 62, 62]⟩] 9,
  .cells #[.string ⟨#[43]⟩, .string ⟨#[45]⟩] 9,
  .cells #[.string ⟨#[42]⟩, .string ⟨#[47]⟩, .string ⟨#[37]⟩] 9,
  .cells #[.slice (some ⟨w.heap.size + 1, 0, none⟩) 1 1, .slice (some ⟨w.heap.size + 1 + 1, 0, none⟩) 1 1, .slice (some ⟨w.heap.size + 1 + 1 + 1, 0, none⟩) 1 1, .slice (some ⟨w.heap.size + 1 + 1 + 1 + 1, 0, none⟩) 1 1, .slice (some ⟨w.heap.size + 1 + 1 + 1 + 1 + 1, 0, none⟩) 1 1, .slice (some ⟨w.heap.size + 1 + 1 + 1 + 1 + 1 + 1, 0, none⟩) 4 4, .slice (some ⟨w.heap.size + 1 + 1 + 1 + 1 + 1 + 1 + 1, 0, none⟩) 6 6, .slice (some ⟨w.heap.size + 1 + 1 + 1 + 1 + 1 + 1 + 1 + 1, 0, none⟩) 3 3, .slice (some ⟨w.heap.size + 1 + 1 + 1 + 1 + 1 + 1 + 1 + 1 + 1, 0, none⟩) 2 2, .slice (some ⟨w.heap.size + 1 + 1 + 1 + 1 + 1 + 1 + 1 + 1 + 1 + 1, 0, none⟩) 3 3] 56] w 0 _ rfl
    exact (cell_of_row _ w.heap.size 2 _ _ _ hO).trans rfl
  · intro kk hk
    have hO := pile_get [
  .cells #[.int .u8 k, .int .i64 p, .string ⟨x.toArray⟩, .float .f64 u] 59,
  .cells #[.string ⟨#[124, 124]⟩] 9,
  .cells #[.string ⟨#[38, 38]⟩] 9,
  .cells #[.string ⟨#[124]⟩] 9,
  .cells #[.string ⟨#[94]⟩] 9,
  .cells #[.string ⟨#[38]⟩] 9,
  .cells #[.string ⟨#[61, 61]⟩, .string ⟨#[33, 61]⟩, .string ⟨#[61, 61, 61]⟩, .string ⟨#[33, 61, 61]⟩] 9,
  .cells #[.string ⟨#[60]⟩, .string ⟨#[62]⟩, .string ⟨#[60, 61]⟩, .string ⟨#[62, 61]⟩, .string ⟨#[105, 110]⟩, .string ⟨#[105, 110, 115, 116, 97, 110, 99, 101, 111, 102]⟩] 9,
  .cells #[.string ⟨#[60, 60]⟩, .string ⟨#[62, 62]⟩, .string ⟨#[62, 62, 62]⟩] 9,
  .cells #[.string ⟨#[43]⟩, .string ⟨#[45]⟩] 9,
  .cells #[.string ⟨#[42]⟩, .string ⟨#[47]⟩, .string ⟨#[37]⟩] 9,
  .cells #[.slice (some ⟨w.heap.size + 1, 0, none⟩) 1 1, .slice (some ⟨w.heap.size + 1 + 1, 0, none⟩) 1 1, .slice (some ⟨w.heap.size + 1 + 1 + 1, 0, none⟩) 1 1, .slice (some ⟨w.heap.size + 1 + 1 + 1 + 1, 0, none⟩) 1 1, .slice (some ⟨w.heap.size + 1 + 1 + 1 + 1 + 1, 0, none⟩) 1 1, .slice (some ⟨w.heap.size + 1 + 1 + 1 + 1 + 1 + 1, 0, none⟩) 4 4, .slice (some ⟨w.heap.size + 1 + 1 + 1 + 1 + 1 + 1 + 1, 0, none⟩) 6 6, .slice (some ⟨w.heap.size + 1 + 1 + 1 + 1 + 1 + 1 + 1 + 1, 0, none⟩) 3 3, .slice (some ⟨w.heap.size + 1 + 1 + 1 + 1 + 1 + 1 + 1 + 1 + 1, 0, none⟩) 2 2, .slice (some ⟨w.heap.size + 1 + 1 + 1 + 1 + 1 + 1 + 1 + 1 + 1 + 1, 0, none⟩) 3 3] 56] w 11 _ rfl
    rcases kk with _|_|_|_|_|_|_|_|_|_|kk
    · exact ⟨w.heap.size + 1, 1, (cell_of_row _ _ 0 _ _ _ hO).trans rfl, row_calls _ _ [[124, 124]] x (by decide) (fun j z hj => by
        have hb := pile_get [
  .cells #[.int .u8 k, .int .i64 p, .string ⟨x.toArray⟩, .float .f64 u] 59,
  .cells #[.string ⟨#[124, 124]⟩] 9,
  .cells #[.string ⟨#[38, 38]⟩] 9,
  .cells #[.string ⟨#[124]⟩] 9,
  .cells #[.string ⟨#[94]⟩] 9,
  .cells #[.string ⟨#[38]⟩] 9,
  .cells #[.string ⟨#[61, 61]⟩, .string ⟨#[33, 61]⟩, .string ⟨#[61, 61, 61]⟩, .string ⟨#[33, 61, 61]⟩] 9,
  .cells #[.string ⟨#[60]⟩, .string ⟨#[62]⟩, .string ⟨#[60, 61]⟩, .string ⟨#[62, 61]⟩, .string ⟨#[105, 110]⟩, .string ⟨#[105, 110, 115, 116, 97, 110, 99, 101, 111, 102]⟩] 9,
  .cells #[.string ⟨#[60, 60]⟩, .string ⟨#[62, 62]⟩, .string ⟨#[62, 62, 62]⟩] 9,
  .cells #[.string ⟨#[43]⟩, .string ⟨#[45]⟩] 9,
  .cells #[.string ⟨#[42]⟩, .string ⟨#[47]⟩, .string ⟨#[37]⟩] 9,
  .cells #[.slice (some ⟨w.heap.size + 1, 0, none⟩) 1 1, .slice (some ⟨w.heap.size + 1 + 1, 0, none⟩) 1 1, .slice (some ⟨w.heap.size + 1 + 1 + 1, 0, none⟩) 1 1, .slice (some ⟨w.heap.size + 1 + 1 + 1 + 1, 0, none⟩) 1 1, .slice (some ⟨w.heap.size + 1 + 1 + 1 + 1 + 1, 0, none⟩) 1 1, .slice (some ⟨w.heap.size + 1 + 1 + 1 + 1 + 1 + 1, 0, none⟩) 4 4, .slice (some ⟨w.heap.size + 1 + 1 + 1 + 1 + 1 + 1 + 1, 0, none⟩) 6 6, .slice (some ⟨w.heap.size + 1 + 1 + 1 + 1 + 1 + 1 + 1 + 1, 0, none⟩) 3 3, .slice (some ⟨w.heap.size + 1 + 1 + 1 + 1 + 1 + 1 + 1 + 1 + 1, 0, none⟩) 2 2, .slice (some ⟨w.heap.size + 1 + 1 + 1 + 1 + 1 + 1 + 1 + 1 + 1 + 1, 0, none⟩) 3 3] 56] w 1 _ rfl
        rcases j with _|j
        · cases hj; exact (cell_of_row _ _ 0 _ _ _ hb).trans rfl
        · simp at hj)⟩
    · exact ⟨w.heap.size + 2, 1, (cell_of_row _ _ 1 _ _ _ hO).trans rfl, row_calls _ _ [[38, 38]] x (by decide) (fun j z hj => by
        have hb := pile_get [
  .cells #[.int .u8 k, .int .i64 p, .string ⟨x.toArray⟩, .float .f64 u] 59,
  .cells #[.string ⟨#[124, 124]⟩] 9,
  .cells #[.string ⟨#[38, 38]⟩] 9,
  .cells #[.string ⟨#[124]⟩] 9,
  .cells #[.string ⟨#[94]⟩] 9,
  .cells #[.string ⟨#[38]⟩] 9,
  .cells #[.string ⟨#[61, 61]⟩, .string ⟨#[33, 61]⟩, .string ⟨#[61, 61, 61]⟩, .string ⟨#[33, 61, 61]⟩] 9,
  .cells #[.string ⟨#[60]⟩, .string ⟨#[62]⟩, .string ⟨#[60, 61]⟩, .string ⟨#[62, 61]⟩, .string ⟨#[105, 110]⟩, .string ⟨#[105, 110, 115, 116, 97, 110, 99, 101, 111, 102]⟩] 9,
  .cells #[.string ⟨#[60, 60]⟩, .string ⟨#[62, 62]⟩, .string ⟨#[62, 62, 62]⟩] 9,
  .cells #[.string ⟨#[43]⟩, .string ⟨#[45]⟩] 9,
  .cells #[.string ⟨#[42]⟩, .string ⟨#[47]⟩, .string ⟨#[37]⟩] 9,
  .cells #[.slice (some ⟨w.heap.size + 1, 0, none⟩) 1 1, .slice (some ⟨w.heap.size + 1 + 1, 0, none⟩) 1 1, .slice (some ⟨w.heap.size + 1 + 1 + 1, 0, none⟩) 1 1, .slice (some ⟨w.heap.size + 1 + 1 + 1 + 1, 0, none⟩) 1 1, .slice (some ⟨w.heap.size + 1 + 1 + 1 + 1 + 1, 0, none⟩) 1 1, .slice (some ⟨w.heap.size + 1 + 1 + 1 + 1 + 1 + 1, 0, none⟩) 4 4, .slice (some ⟨w.heap.size + 1 + 1 + 1 + 1 + 1 + 1 + 1, 0, none⟩) 6 6, .slice (some ⟨w.heap.size + 1 + 1 + 1 + 1 + 1 + 1 + 1 + 1, 0, none⟩) 3 3, .slice (some ⟨w.heap.size + 1 + 1 + 1 + 1 + 1 + 1 + 1 + 1 + 1, 0, none⟩) 2 2, .slice (some ⟨w.heap.size + 1 + 1 + 1 + 1 + 1 + 1 + 1 + 1 + 1 + 1, 0, none⟩) 3 3] 56] w 2 _ rfl
        rcases j with _|j
        · cases hj; exact (cell_of_row _ _ 0 _ _ _ hb).trans rfl
        · simp at hj)⟩
    · exact ⟨w.heap.size + 3, 1, (cell_of_row _ _ 2 _ _ _ hO).trans rfl, row_calls _ _ [[124]] x (by decide) (fun j z hj => by
        have hb := pile_get [
  .cells #[.int .u8 k, .int .i64 p, .string ⟨x.toArray⟩, .float .f64 u] 59,
  .cells #[.string ⟨#[124, 124]⟩] 9,
  .cells #[.string ⟨#[38, 38]⟩] 9,
  .cells #[.string ⟨#[124]⟩] 9,
  .cells #[.string ⟨#[94]⟩] 9,
  .cells #[.string ⟨#[38]⟩] 9,
  .cells #[.string ⟨#[61, 61]⟩, .string ⟨#[33, 61]⟩, .string ⟨#[61, 61, 61]⟩, .string ⟨#[33, 61, 61]⟩] 9,
  .cells #[.string ⟨#[60]⟩, .string ⟨#[62]⟩, .string ⟨#[60, 61]⟩, .string ⟨#[62, 61]⟩, .string ⟨#[105, 110]⟩, .string ⟨#[105, 110, 115, 116, 97, 110, 99, 101, 111, 102]⟩] 9,
  .cells #[.string ⟨#[60, 60]⟩, .string ⟨#[62, 62]⟩, .string ⟨#[62, 62, 62]⟩] 9,
  .cells #[.string ⟨#[43]⟩, .string ⟨#[45]⟩] 9,
  .cells #[.string ⟨#[42]⟩, .string ⟨#[47]⟩, .string ⟨#[37]⟩] 9,
  .cells #[.slice (some ⟨w.heap.size + 1, 0, none⟩) 1 1, .slice (some ⟨w.heap.size + 1 + 1, 0, none⟩) 1 1, .slice (some ⟨w.heap.size + 1 + 1 + 1, 0, none⟩) 1 1, .slice (some ⟨w.heap.size + 1 + 1 + 1 + 1, 0, none⟩) 1 1, .slice (some ⟨w.heap.size + 1 + 1 + 1 + 1 + 1, 0, none⟩) 1 1, .slice (some ⟨w.heap.size + 1 + 1 + 1 + 1 + 1 + 1, 0, none⟩) 4 4, .slice (some ⟨w.heap.size + 1 + 1 + 1 + 1 + 1 + 1 + 1, 0, none⟩) 6 6, .slice (some ⟨w.heap.size + 1 + 1 + 1 + 1 + 1 + 1 + 1 + 1, 0, none⟩) 3 3, .slice (some ⟨w.heap.size + 1 + 1 + 1 + 1 + 1 + 1 + 1 + 1 + 1, 0, none⟩) 2 2, .slice (some ⟨w.heap.size + 1 + 1 + 1 + 1 + 1 + 1 + 1 + 1 + 1 + 1, 0, none⟩) 3 3] 56] w 3 _ rfl
        rcases j with _|j
        · cases hj; exact (cell_of_row _ _ 0 _ _ _ hb).trans rfl
        · simp at hj)⟩
    · exact ⟨w.heap.size + 4, 1, (cell_of_row _ _ 3 _ _ _ hO).trans rfl, row_calls _ _ [[94]] x (by decide) (fun j z hj => by
        have hb := pile_get [
  .cells #[.int .u8 k, .int .i64 p, .string ⟨x.toArray⟩, .float .f64 u] 59,
  .cells #[.string ⟨#[124, 124]⟩] 9,
  .cells #[.string ⟨#[38, 38]⟩] 9,
  .cells #[.string ⟨#[124]⟩] 9,
  .cells #[.string ⟨#[94]⟩] 9,
  .cells #[.string ⟨#[38]⟩] 9,
  .cells #[.string ⟨#[61, 61]⟩, .string ⟨#[33, 61]⟩, .string ⟨#[61, 61, 61]⟩, .string ⟨#[33, 61, 61]⟩] 9,
  .cells #[.string ⟨#[60]⟩, .string ⟨#[62]⟩, .string ⟨#[60, 61]⟩, .string ⟨#[62, 61]⟩, .string ⟨#[105, 110]⟩, .string ⟨#[105, 110, 115, 116, 97, 110, 99, 101, 111, 102]⟩] 9,
  .cells #[.string ⟨#[60, 60]⟩, .string ⟨#[62, 62]⟩, .string ⟨#[62, 62, 62]⟩] 9,
  .cells #[.string ⟨#[43]⟩, .string ⟨#[45]⟩] 9,
  .cells #[.string ⟨#[42]⟩, .string ⟨#[47]⟩, .string ⟨#[37]⟩] 9,
  .cells #[.slice (some ⟨w.heap.size + 1, 0, none⟩) 1 1, .slice (some ⟨w.heap.size + 1 + 1, 0, none⟩) 1 1, .slice (some ⟨w.heap.size + 1 + 1 + 1, 0, none⟩) 1 1, .slice (some ⟨w.heap.size + 1 + 1 + 1 + 1, 0, none⟩) 1 1, .slice (some ⟨w.heap.size + 1 + 1 + 1 + 1 + 1, 0, none⟩) 1 1, .slice (some ⟨w.heap.size + 1 + 1 + 1 + 1 + 1 + 1, 0, none⟩) 4 4, .slice (some ⟨w.heap.size + 1 + 1 + 1 + 1 + 1 + 1 + 1, 0, none⟩) 6 6, .slice (some ⟨w.heap.size + 1 + 1 + 1 + 1 + 1 + 1 + 1 + 1, 0, none⟩) 3 3, .slice (some ⟨w.heap.size + 1 + 1 + 1 + 1 + 1 + 1 + 1 + 1 + 1, 0, none⟩) 2 2, .slice (some ⟨w.heap.size + 1 + 1 + 1 + 1 + 1 + 1 + 1 + 1 + 1 + 1, 0, none⟩) 3 3] 56] w 4 _ rfl
        rcases j with _|j
        · cases hj; exact (cell_of_row _ _ 0 _ _ _ hb).trans rfl
        · simp at hj)⟩
    · exact ⟨w.heap.size + 5, 1, (cell_of_row _ _ 4 _ _ _ hO).trans rfl, row_calls _ _ [[38]] x (by decide) (fun j z hj => by
        have hb := pile_get [
  .cells #[.int .u8 k, .int .i64 p, .string ⟨x.toArray⟩, .float .f64 u] 59,
  .cells #[.string ⟨#[124, 124]⟩] 9,
  .cells #[.string ⟨#[38, 38]⟩] 9,
  .cells #[.string ⟨#[124]⟩] 9,
  .cells #[.string ⟨#[94]⟩] 9,
  .cells #[.string ⟨#[38]⟩] 9,
  .cells #[.string ⟨#[61, 61]⟩, .string ⟨#[33, 61]⟩, .string ⟨#[61, 61, 61]⟩, .string ⟨#[33, 61, 61]⟩] 9,
  .cells #[.string ⟨#[60]⟩, .string ⟨#[62]⟩, .string ⟨#[60, 61]⟩, .string ⟨#[62, 61]⟩, .string ⟨#[105, 110]⟩, .string ⟨#[105, 110, 115, 116, 97, 110, 99, 101, 111, 102]⟩] 9,
  .cells #[.string ⟨#[60, 60]⟩, .string ⟨#[62, 62]⟩, .string ⟨#[62, 62, 62]⟩] 9,
  .cells #[.string ⟨#[43]⟩, .string ⟨#[45]⟩] 9,
  .cells #[.string ⟨#[42]⟩, .string ⟨#[47]⟩, .string ⟨#[37]⟩] 9,
  .cells #[.slice (some ⟨w.heap.size + 1, 0, none⟩) 1 1, .slice (some ⟨w.heap.size + 1 + 1, 0, none⟩) 1 1, .slice (some ⟨w.heap.size + 1 + 1 + 1, 0, none⟩) 1 1, .slice (some ⟨w.heap.size + 1 + 1 + 1 + 1, 0, none⟩) 1 1, .slice (some ⟨w.heap.size + 1 + 1 + 1 + 1 + 1, 0, none⟩) 1 1, .slice (some ⟨w.heap.size + 1 + 1 + 1 + 1 + 1 + 1, 0, none⟩) 4 4, .slice (some ⟨w.heap.size + 1 + 1 + 1 + 1 + 1 + 1 + 1, 0, none⟩) 6 6, .slice (some ⟨w.heap.size + 1 + 1 + 1 + 1 + 1 + 1 + 1 + 1, 0, none⟩) 3 3, .slice (some ⟨w.heap.size + 1 + 1 + 1 + 1 + 1 + 1 + 1 + 1 + 1, 0, none⟩) 2 2, .slice (some ⟨w.heap.size + 1 + 1 + 1 + 1 + 1 + 1 + 1 + 1 + 1 + 1, 0, none⟩) 3 3] 56] w 5 _ rfl
        rcases j with _|j
        · cases hj; exact (cell_of_row _ _ 0 _ _ _ hb).trans rfl
        · simp at hj)⟩
    · exact ⟨w.heap.size + 6, 4, (cell_of_row _ _ 5 _ _ _ hO).trans rfl, row_calls _ _ [[61, 61], [33, 61], [61, 61, 61], [33, 61, 61]] x (by decide) (fun j z hj => by
        have hb := pile_get [
  .cells #[.int .u8 k, .int .i64 p, .string ⟨x.toArray⟩, .float .f64 u] 59,
  .cells #[.string ⟨#[124, 124]⟩] 9,
  .cells #[.string ⟨#[38, 38]⟩] 9,
  .cells #[.string ⟨#[124]⟩] 9,
  .cells #[.string ⟨#[94]⟩] 9,
  .cells #[.string ⟨#[38]⟩] 9,
  .cells #[.string ⟨#[61, 61]⟩, .string ⟨#[33, 61]⟩, .string ⟨#[61, 61, 61]⟩, .string ⟨#[33, 61, 61]⟩] 9,
  .cells #[.string ⟨#[60]⟩, .string ⟨#[62]⟩, .string ⟨#[60, 61]⟩, .string ⟨#[62, 61]⟩, .string ⟨#[105, 110]⟩, .string ⟨#[105, 110, 115, 116, 97, 110, 99, 101, 111, 102]⟩] 9,
  .cells #[.string ⟨#[60, 60]⟩, .string ⟨#[62, 62]⟩, .string ⟨#[62, 62, 62]⟩] 9,
  .cells #[.string ⟨#[43]⟩, .string ⟨#[45]⟩] 9,
  .cells #[.string ⟨#[42]⟩, .string ⟨#[47]⟩, .string ⟨#[37]⟩] 9,
  .cells #[.slice (some ⟨w.heap.size + 1, 0, none⟩) 1 1, .slice (some ⟨w.heap.size + 1 + 1, 0, none⟩) 1 1, .slice (some ⟨w.heap.size + 1 + 1 + 1, 0, none⟩) 1 1, .slice (some ⟨w.heap.size + 1 + 1 + 1 + 1, 0, none⟩) 1 1, .slice (some ⟨w.heap.size + 1 + 1 + 1 + 1 + 1, 0, none⟩) 1 1, .slice (some ⟨w.heap.size + 1 + 1 + 1 + 1 + 1 + 1, 0, none⟩) 4 4, .slice (some ⟨w.heap.size + 1 + 1 + 1 + 1 + 1 + 1 + 1, 0, none⟩) 6 6, .slice (some ⟨w.heap.size + 1 + 1 + 1 + 1 + 1 + 1 + 1 + 1, 0, none⟩) 3 3, .slice (some ⟨w.heap.size + 1 + 1 + 1 + 1 + 1 + 1 + 1 + 1 + 1, 0, none⟩) 2 2, .slice (some ⟨w.heap.size + 1 + 1 + 1 + 1 + 1 + 1 + 1 + 1 + 1 + 1, 0, none⟩) 3 3] 56] w 6 _ rfl
        rcases j with _|_|_|_|j
        · cases hj; exact (cell_of_row _ _ 0 _ _ _ hb).trans rfl
        · cases hj; exact (cell_of_row _ _ 1 _ _ _ hb).trans rfl
        · cases hj; exact (cell_of_row _ _ 2 _ _ _ hb).trans rfl
        · cases hj; exact (cell_of_row _ _ 3 _ _ _ hb).trans rfl
        · simp at hj)⟩
    · exact ⟨w.heap.size + 7, 6, (cell_of_row _ _ 6 _ _ _ hO).trans rfl, row_calls _ _ [[60], [62], [60, 61], [62, 61], [105, 110], [105, 110, 115, 116, 97, 110, 99, 101, 111, 102]] x (by decide) (fun j z hj => by
        have hb := pile_get [
  .cells #[.int .u8 k, .int .i64 p, .string ⟨x.toArray⟩, .float .f64 u] 59,
  .cells #[.string ⟨#[124, 124]⟩] 9,
  .cells #[.string ⟨#[38, 38]⟩] 9,
  .cells #[.string ⟨#[124]⟩] 9,
  .cells #[.string ⟨#[94]⟩] 9,
  .cells #[.string ⟨#[38]⟩] 9,
  .cells #[.string ⟨#[61, 61]⟩, .string ⟨#[33, 61]⟩, .string ⟨#[61, 61, 61]⟩, .string ⟨#[33, 61, 61]⟩] 9,
  .cells #[.string ⟨#[60]⟩, .string ⟨#[62]⟩, .string ⟨#[60, 61]⟩, .string ⟨#[62, 61]⟩, .string ⟨#[105, 110]⟩, .string ⟨#[105, 110, 115, 116, 97, 110, 99, 101, 111, 102]⟩] 9,
  .cells #[.string ⟨#[60, 60]⟩, .string ⟨#[62, 62]⟩, .string ⟨#[62, 62, 62]⟩] 9,
  .cells #[.string ⟨#[43]⟩, .string ⟨#[45]⟩] 9,
  .cells #[.string ⟨#[42]⟩, .string ⟨#[47]⟩, .string ⟨#[37]⟩] 9,
  .cells #[.slice (some ⟨w.heap.size + 1, 0, none⟩) 1 1, .slice (some ⟨w.heap.size + 1 + 1, 0, none⟩) 1 1, .slice (some ⟨w.heap.size + 1 + 1 + 1, 0, none⟩) 1 1, .slice (some ⟨w.heap.size + 1 + 1 + 1 + 1, 0, none⟩) 1 1, .slice (some ⟨w.heap.size + 1 + 1 + 1 + 1 + 1, 0, none⟩) 1 1, .slice (some ⟨w.heap.size + 1 + 1 + 1 + 1 + 1 + 1, 0, none⟩) 4 4, .slice (some ⟨w.heap.size + 1 + 1 + 1 + 1 + 1 + 1 + 1, 0, none⟩) 6 6, .slice (some ⟨w.heap.size + 1 + 1 + 1 + 1 + 1 + 1 + 1 + 1, 0, none⟩) 3 3, .slice (some ⟨w.heap.size + 1 + 1 + 1 + 1 + 1 + 1 + 1 + 1 + 1, 0, none⟩) 2 2, .slice (some ⟨w.heap.size + 1 + 1 + 1 + 1 + 1 + 1 + 1 + 1 + 1 + 1, 0, none⟩) 3 3] 56] w 7 _ rfl
        rcases j with _|_|_|_|_|_|j
        · cases hj; exact (cell_of_row _ _ 0 _ _ _ hb).trans rfl
        · cases hj; exact (cell_of_row _ _ 1 _ _ _ hb).trans rfl
        · cases hj; exact (cell_of_row _ _ 2 _ _ _ hb).trans rfl
        · cases hj; exact (cell_of_row _ _ 3 _ _ _ hb).trans rfl
        · cases hj; exact (cell_of_row _ _ 4 _ _ _ hb).trans rfl
        · cases hj; exact (cell_of_row _ _ 5 _ _ _ hb).trans rfl
        · simp at hj)⟩
    · exact ⟨w.heap.size + 8, 3, (cell_of_row _ _ 7 _ _ _ hO).trans rfl, row_calls _ _ [[60, 60], [62, 62], [62, 62, 62]] x (by decide) (fun j z hj => by
        have hb := pile_get [
  .cells #[.int .u8 k, .int .i64 p, .string ⟨x.toArray⟩, .float .f64 u] 59,
  .cells #[.string ⟨#[124, 124]⟩] 9,
  .cells #[.string ⟨#[38, 38]⟩] 9,
  .cells #[.string ⟨#[124]⟩] 9,
  .cells #[.string ⟨#[94]⟩] 9,
  .cells #[.string ⟨#[38]⟩] 9,
  .cells #[.string ⟨#[61, 61]⟩, .string ⟨#[33, 61]⟩, .string ⟨#[61, 61, 61]⟩, .string ⟨#[33, 61, 61]⟩] 9,
  .cells #[.string ⟨#[60]⟩, .string ⟨#[62]⟩, .string ⟨#[60, 61]⟩, .string ⟨#[62, 61]⟩, .string ⟨#[105, 110]⟩, .string ⟨#[105, 110, 115, 116, 97, 110, 99, 101, 111, 102]⟩] 9,
  .cells #[.string ⟨#[60, 60]⟩, .string ⟨#[62, 62]⟩, .string ⟨#[62, 62, 62]⟩] 9,
  .cells #[.string ⟨#[43]⟩, .string ⟨#[45]⟩] 9,
  .cells #[.string ⟨#[42]⟩, .string ⟨#[47]⟩, .string ⟨#[37]⟩] 9,
  .cells #[.slice (some ⟨w.heap.size + 1, 0, none⟩) 1 1, .slice (some ⟨w.heap.size + 1 + 1, 0, none⟩) 1 1, .slice (some ⟨w.heap.size + 1 + 1 + 1, 0, none⟩) 1 1, .slice (some ⟨w.heap.size + 1 + 1 + 1 + 1, 0, none⟩) 1 1, .slice (some ⟨w.heap.size + 1 + 1 + 1 + 1 + 1, 0, none⟩) 1 1, .slice (some ⟨w.heap.size + 1 + 1 + 1 + 1 + 1 + 1, 0, none⟩) 4 4, .slice (some ⟨w.heap.size + 1 + 1 + 1 + 1 + 1 + 1 + 1, 0, none⟩) 6 6, .slice (some ⟨w.heap.size + 1 + 1 + 1 + 1 + 1 + 1 + 1 + 1, 0, none⟩) 3 3, .slice (some ⟨w.heap.size + 1 + 1 + 1 + 1 + 1 + 1 + 1 + 1 + 1, 0, none⟩) 2 2, .slice (some ⟨w.heap.size + 1 + 1 + 1 + 1 + 1 + 1 + 1 + 1 + 1 + 1, 0, none⟩) 3 3] 56] w 8 _ rfl
        rcases j with _|_|_|j
        · cases hj; exact (cell_of_row _ _ 0 _ _ _ hb).trans rfl
        · cases hj; exact (cell_of_row _ _ 1 _ _ _ hb).trans rfl
        · cases hj; exact (cell_of_row _ _ 2 _ _ _ hb).trans rfl
        · simp at hj)⟩
    · exact ⟨w.heap.size + 9, 2, (cell_of_row _ _ 8 _ _ _ hO).trans rfl, row_calls _ _ [[43], [45]] x (by decide) (fun j z hj => by
        have hb := pile_get [
  .cells #[.int .u8 k, .int .i64 p, .string ⟨x.toArray⟩, .float .f64 u] 59,
  .cells #[.string ⟨#[124, 124]⟩] 9,
  .cells #[.string ⟨#[38, 38]⟩] 9,
  .cells #[.string ⟨#[124]⟩] 9,
  .cells #[.string ⟨#[94]⟩] 9,
  .cells #[.string ⟨#[38]⟩] 9,
  .cells #[.string ⟨#[61, 61]⟩, .string ⟨#[33, 61]⟩, .string ⟨#[61, 61, 61]⟩, .string ⟨#[33, 61, 61]⟩] 9,
  .cells #[.string ⟨#[60]⟩, .string ⟨#[62]⟩, .string ⟨#[60, 61]⟩, .string ⟨#[62, 61]⟩, .string ⟨#[105, 110]⟩, .string ⟨#[105, 110, 115, 116, 97, 110, 99, 101, 111, 102]⟩] 9,
  .cells #[.string ⟨#[60, 60]⟩, .string ⟨#[62, 62]⟩, .string ⟨#[62, 62, 62]⟩] 9,
  .cells #[.string ⟨#[43]⟩, .string ⟨#[45]⟩] 9,
  .cells #[.string ⟨#[42]⟩, .string ⟨#[47]⟩, .string ⟨#[37]⟩] 9,
  .cells #[.slice (some ⟨w.heap.size + 1, 0, none⟩) 1 1, .slice (some ⟨w.heap.size + 1 + 1, 0, none⟩) 1 1, .slice (some ⟨w.heap.size + 1 + 1 + 1, 0, none⟩) 1 1, .slice (some ⟨w.heap.size + 1 + 1 + 1 + 1, 0, none⟩) 1 1, .slice (some ⟨w.heap.size + 1 + 1 + 1 + 1 + 1, 0, none⟩) 1 1, .slice (some ⟨w.heap.size + 1 + 1 + 1 + 1 + 1 + 1, 0, none⟩) 4 4, .slice (some ⟨w.heap.size + 1 + 1 + 1 + 1 + 1 + 1 + 1, 0, none⟩) 6 6, .slice (some ⟨w.heap.size + 1 + 1 + 1 + 1 + 1 + 1 + 1 + 1, 0, none⟩) 3 3, .slice (some ⟨w.heap.size + 1 + 1 + 1 + 1 + 1 + 1 + 1 + 1 + 1, 0, none⟩) 2 2, .slice (some ⟨w.heap.size + 1 + 1 + 1 + 1 + 1 + 1 + 1 + 1 + 1 + 1, 0, none⟩) 3 3] 56] w 9 _ rfl
        rcases j with _|_|j
        · cases hj; exact (cell_of_row _ _ 0 _ _ _ hb).trans rfl
        · cases hj; exact (cell_of_row _ _ 1 _ _ _ hb).trans rfl
        · simp at hj)⟩
    · exact ⟨w.heap.size + 10, 3, (cell_of_row _ _ 9 _ _ _ hO).trans rfl, row_calls _ _ [[42], [47], [37]] x (by decide) (fun j z hj => by
        have hb := pile_get [
  .cells #[.int .u8 k, .int .i64 p, .string ⟨x.toArray⟩, .float .f64 u] 59,
  .cells #[.string ⟨#[124, 124]⟩] 9,
  .cells #[.string ⟨#[38, 38]⟩] 9,
  .cells #[.string ⟨#[124]⟩] 9,
  .cells #[.string ⟨#[94]⟩] 9,
  .cells #[.string ⟨#[38]⟩] 9,
  .cells #[.string ⟨#[61, 61]⟩, .string ⟨#[33, 61]⟩, .string ⟨#[61, 61, 61]⟩, .string ⟨#[33, 61, 61]⟩] 9,
  .cells #[.string ⟨#[60]⟩, .string ⟨#[62]⟩, .string ⟨#[60, 61]⟩, .string ⟨#[62, 61]⟩, .string ⟨#[105, 110]⟩, .string ⟨#[105, 110, 115, 116, 97, 110, 99, 101, 111, 102]⟩] 9,
  .cells #[.string ⟨#[60, 60]⟩, .string ⟨#[62, 62]⟩, .string ⟨#[62, 62, 62]⟩] 9,
  .cells #[.string ⟨#[43]⟩, .string ⟨#[45]⟩] 9,
  .cells #[.string ⟨#[42]⟩, .string ⟨#[47]⟩, .string ⟨#[37]⟩] 9,
  .cells #[.slice (some ⟨w.heap.size + 1, 0, none⟩) 1 1, .slice (some ⟨w.heap.size + 1 + 1, 0, none⟩) 1 1, .slice (some ⟨w.heap.size + 1 + 1 + 1, 0, none⟩) 1 1, .slice (some ⟨w.heap.size + 1 + 1 + 1 + 1, 0, none⟩) 1 1, .slice (some ⟨w.heap.size + 1 + 1 + 1 + 1 + 1, 0, none⟩) 1 1, .slice (some ⟨w.heap.size + 1 + 1 + 1 + 1 + 1 + 1, 0, none⟩) 4 4, .slice (some ⟨w.heap.size + 1 + 1 + 1 + 1 + 1 + 1 + 1, 0, none⟩) 6 6, .slice (some ⟨w.heap.size + 1 + 1 + 1 + 1 + 1 + 1 + 1 + 1, 0, none⟩) 3 3, .slice (some ⟨w.heap.size + 1 + 1 + 1 + 1 + 1 + 1 + 1 + 1 + 1, 0, none⟩) 2 2, .slice (some ⟨w.heap.size + 1 + 1 + 1 + 1 + 1 + 1 + 1 + 1 + 1 + 1, 0, none⟩) 3 3] 56] w 10 _ rfl
        rcases j with _|_|_|j
        · cases hj; exact (cell_of_row _ _ 0 _ _ _ hb).trans rfl
        · cases hj; exact (cell_of_row _ _ 1 _ _ _ hb).trans rfl
        · cases hj; exact (cell_of_row _ _ 2 _ _ _ hb).trans rfl
        · simp at hj)⟩
    · omega

theorem rowOf_drop (x : List UInt8) (kk : Nat) (h : kk < 10) : rowOf x (rows.drop kk) kk = if (rows.getD kk []).contains x then kk + 3 else rowOf x (rows.drop (kk + 1)) (kk + 1) := by
  rcases kk with _|_|_|_|_|_|_|_|_|_|kk
  all_goals first | rfl | omega

set_option maxRecDepth 100000 in
set_option maxHeartbeats 8000000 in
theorem tight_in (p : Int) (x : List UInt8) (u : Nat) (w : World) (n : Nat) (HE : n = rowOf x rows 0) (h2 : (x == [105, 110]) = true) :
    Calls Tryz.prog 129 #[.agg #[.int .u8 2, .int .i64 p, .string ⟨x.toArray⟩, .float .f64 u]] w fun e w' => e = .returned (.int .i64 n) ∧ Below w.heap.size w w' := by
  go_enter Tryz.func129, Tryz.ntmps129
  go_wp2_with fail
  go_loopg [40] 11 (fun m u wr => ∃ (kk : Nat), u = .int .i64 kk ∧ TRows x w.heap.size w wr ∧ kk ≤ 10 ∧ 11 ≤ m + kk ∧ rowOf x rows 0 = rowOf x (rows.drop kk) kk)
  case atStart => exact ⟨0, rfl, trows_start .., by omega, by omega, rfl⟩
  case round =>
    obtain ⟨kk, rfl, HT, hkk, hm, hrest⟩ := hrel
    have h2t := HT.tok
    by_cases hlt : kk < 10
    · have hl2 : (kk : Int) < 10 := by omega
      obtain ⟨b, n, hrow, hcall⟩ := HT.row kk hlt
      rw [rowOf_drop _ _ hlt] at hrest
      by_cases hc : (rows.getD kk []).contains x = true
      · rw [hc] at hcall
        rw [if_pos hc] at hrest
        go_wp2_with (go_at_call 128; refine hcall.mono ?_; rintro e w' ⟨rfl, rfl⟩)
        go_ret
        exact ⟨by rw [HE, hrest]; rfl, HT.below⟩
      · have hc' : (rows.getD kk []).contains x = false := by simpa using hc
        rw [hc'] at hcall
        rw [if_neg hc] at hrest
        go_wp2_with (go_at_call 128; refine hcall.mono ?_; rintro e w' ⟨rfl, rfl⟩)
        obtain ⟨m, rfl⟩ : ∃ m, gk = m + 1 := ⟨gk - 1, by omega⟩
        go_roundg m
        case measure => omega
        case rel => exact ⟨kk + 1, by simp, HT, by omega, by omega, hrest⟩
    · have hk : kk = 10 := by omega
      subst hk
      go_wp2_with fail
      go_ret
      exact ⟨by rw [HE, hrest]; rfl, HT.below⟩

set_option maxRecDepth 100000 in
set_option maxHeartbeats 8000000 in
theorem tight_inst (p : Int) (x : List UInt8) (u : Nat) (w : World) (n : Nat) (HE : n = rowOf x rows 0) (h2 : (x == [105, 110]) = false) (h3 : (x == [105, 110, 115, 116, 97, 110, 99, 101, 111, 102]) = true) :
    Calls Tryz.prog 129 #[.agg #[.int .u8 2, .int .i64 p, .string ⟨x.toArray⟩, .float .f64 u]] w fun e w' => e = .returned (.int .i64 n) ∧ Below w.heap.size w w' := by
  go_enter Tryz.func129, Tryz.ntmps129
  go_wp2_with fail
  go_loopg [40] 11 (fun m u wr => ∃ (kk : Nat), u = .int .i64 kk ∧ TRows x w.heap.size w wr ∧ kk ≤ 10 ∧ 11 ≤ m + kk ∧ rowOf x rows 0 = rowOf x (rows.drop kk) kk)
  case atStart => exact ⟨0, rfl, trows_start .., by omega, by omega, rfl⟩
  case round =>
    obtain ⟨kk, rfl, HT, hkk, hm, hrest⟩ := hrel
    have h2t := HT.tok
    by_cases hlt : kk < 10
    · have hl2 : (kk : Int) < 10 := by omega
      obtain ⟨b, n, hrow, hcall⟩ := HT.row kk hlt
      rw [rowOf_drop _ _ hlt] at hrest
      by_cases hc : (rows.getD kk []).contains x = true
      · rw [hc] at hcall
        rw [if_pos hc] at hrest
        go_wp2_with (go_at_call 128; refine hcall.mono ?_; rintro e w' ⟨rfl, rfl⟩)
        go_ret
        exact ⟨by rw [HE, hrest]; rfl, HT.below⟩
      · have hc' : (rows.getD kk []).contains x = false := by simpa using hc
        rw [hc'] at hcall
        rw [if_neg hc] at hrest
        go_wp2_with (go_at_call 128; refine hcall.mono ?_; rintro e w' ⟨rfl, rfl⟩)
        obtain ⟨m, rfl⟩ : ∃ m, gk = m + 1 := ⟨gk - 1, by omega⟩
        go_roundg m
        case measure => omega
        case rel => exact ⟨kk + 1, by simp, HT, by omega, by omega, hrest⟩
    · have hk : kk = 10 := by omega
      subst hk
      go_wp2_with fail
      go_ret
      exact ⟨by rw [HE, hrest]; rfl, HT.below⟩

set_option maxRecDepth 100000 in
set_option maxHeartbeats 8000000 in
theorem tight_word (p : Int) (x : List UInt8) (u : Nat) (w : World) (n : Nat) (HE : n = 0) (h2 : (x == [105, 110]) = false) (h3 : (x == [105, 110, 115, 116, 97, 110, 99, 101, 111, 102]) = false) :
    Calls Tryz.prog 129 #[.agg #[.int .u8 2, .int .i64 p, .string ⟨x.toArray⟩, .float .f64 u]] w fun e w' => e = .returned (.int .i64 n) ∧ Below w.heap.size w w' := by
  go_enter Tryz.func129, Tryz.ntmps129
  go_wp2_with fail
  go_ret
  exact ⟨by rw [HE]; rfl, (Below.refl _ _).alloc (Nat.le_refl _) _⟩

set_option maxRecDepth 100000 in
set_option maxHeartbeats 8000000 in
theorem tight_sign (p : Int) (x : List UInt8) (u : Nat) (w : World) (n : Nat) (HE : n = rowOf x rows 0) :
    Calls Tryz.prog 129 #[.agg #[.int .u8 5, .int .i64 p, .string ⟨x.toArray⟩, .float .f64 u]] w fun e w' => e = .returned (.int .i64 n) ∧ Below w.heap.size w w' := by
  go_enter Tryz.func129, Tryz.ntmps129
  go_wp2_with fail
  go_loopg [40] 11 (fun m u wr => ∃ (kk : Nat), u = .int .i64 kk ∧ TRows x w.heap.size w wr ∧ kk ≤ 10 ∧ 11 ≤ m + kk ∧ rowOf x rows 0 = rowOf x (rows.drop kk) kk)
  case atStart => exact ⟨0, rfl, trows_start .., by omega, by omega, rfl⟩
  case round =>
    obtain ⟨kk, rfl, HT, hkk, hm, hrest⟩ := hrel
    have h2t := HT.tok
    by_cases hlt : kk < 10
    · have hl2 : (kk : Int) < 10 := by omega
      obtain ⟨b, n, hrow, hcall⟩ := HT.row kk hlt
      rw [rowOf_drop _ _ hlt] at hrest
      by_cases hc : (rows.getD kk []).contains x = true
      · rw [hc] at hcall
        rw [if_pos hc] at hrest
        go_wp2_with (go_at_call 128; refine hcall.mono ?_; rintro e w' ⟨rfl, rfl⟩)
        go_ret
        exact ⟨by rw [HE, hrest]; rfl, HT.below⟩
      · have hc' : (rows.getD kk []).contains x = false := by simpa using hc
        rw [hc'] at hcall
        rw [if_neg hc] at hrest
        go_wp2_with (go_at_call 128; refine hcall.mono ?_; rintro e w' ⟨rfl, rfl⟩)
        obtain ⟨m, rfl⟩ : ∃ m, gk = m + 1 := ⟨gk - 1, by omega⟩
        go_roundg m
        case measure => omega
        case rel => exact ⟨kk + 1, by simp, HT, by omega, by omega, hrest⟩
    · have hk : kk = 10 := by omega
      subst hk
      go_wp2_with fail
      go_ret
      exact ⟨by rw [HE, hrest]; rfl, HT.below⟩

set_option maxRecDepth 100000 in
set_option maxHeartbeats 8000000 in
theorem tight_other (kd : Nat) (p : Int) (x : List UInt8) (u : Nat) (w : World) (n : Nat) (HE : n = 0) (h1a : ((kd : Int) == 2) = false) (h1b : ¬ (kd : Int) = 2) (h2a : ((kd : Int) == 5) = false) (h2b : ¬ (kd : Int) = 5) (h1c : ((kd : Int) != 2) = true) (h2c : ((kd : Int) != 5) = true) :
    Calls Tryz.prog 129 #[.agg #[.int .u8 kd, .int .i64 p, .string ⟨x.toArray⟩, .float .f64 u]] w fun e w' => e = .returned (.int .i64 n) ∧ Below w.heap.size w w' := by
  go_enter Tryz.func129, Tryz.ntmps129
  go_wp2_with fail
  go_ret
  exact ⟨by rw [HE]; rfl, (Below.refl _ _).alloc (Nat.le_refl _) _⟩


theorem tight_calls (t : Tok) (w : World) :
    Calls Tryz.prog 129 #[.agg #[.int .u8 t.kind, .int .i64 t.pos, .string ⟨t.text.toArray⟩, .float .f64 t.num]] w fun e w' => e = .returned (.int .i64 (Bf.tight t)) ∧ Below w.heap.size w w' := by
  obtain ⟨kd, p, x, u⟩ := t
  by_cases h1 : kd = 2
  · subst h1
    by_cases h2 : (x == [105, 110]) = true
    · exact tight_in p x u w _ (by simp at h2; subst h2; rfl) h2
    · have h2' : (x == [105, 110]) = false := by simpa using h2
      by_cases h3 : (x == [105, 110, 115, 116, 97, 110, 99, 101, 111, 102]) = true
      · exact tight_inst p x u w _ (by simp at h3; subst h3; rfl) h2' h3
      · have h3' : (x == [105, 110, 115, 116, 97, 110, 99, 101, 111, 102]) = false := by simpa using h3
        exact tight_word p x u w _ (by simp at h2' h3'; simp [Bf.tight, h2', h3']) h2' h3'
  · have h1a : ((kd : Int) == 2) = false := by rw [show ((kd : Int) == 2) = (kd == 2) from beqK _ 2]; simpa using h1
    by_cases h2 : kd = 5
    · subst h2
      exact tight_sign p x u w _ rfl
    · have h2a : ((kd : Int) == 5) = false := by rw [show ((kd : Int) == 5) = (kd == 5) from beqK _ 5]; simpa using h2
      exact tight_other kd p x u w _ (by simp [Bf.tight, h1, h2]) h1a (by omega) h2a (by omega) (by simp [bne, h1a]) (by simp [bne, h2a])

end Go.Proofs.YtgdamcmfdhhheaaGreatDoor

/- Sides that are bound so tight, walked. -/
namespace Go.Proofs.YtgdamcmfdhhheaaGreatDoor
open Go.RowKit Bf

theorem rowOf_le (x : List UInt8) : ∀ (rs : List (List (List UInt8))) (i : Nat), rowOf x rs i ≤ i + rs.length + 2 := by
  intro rs
  induction rs with
  | nil => intro i; simp [rowOf]
  | cons r rs ih =>
    intro i
    have := ih (i + 1)
    simp only [rowOf, List.length_cons]
    split <;> omega

theorem tight_le (t : Tok) : Bf.tight t ≤ 12 := by
  unfold Bf.tight
  split
  · omega
  · exact rowOf_le _ rows 0

theorem tight_end (t : Tok) (h : t.kind = 0) : Bf.tight t = 0 := by simp [Bf.tight, h]

structure BinAt (n lv least pos : Nat) (r : Res (List T)) (m : Nat) (t : T) (R : List Tok) : Prop where
  le : m ≤ n
  eq : r = pRun m (.binTail lv least pos t) R

theorem BinAt.pos {n lv least pos m : Nat} {r : Res (List T)} {t : T} {R : List Tok} (h : BinAt n lv least pos r m t R) (hne : r ≠ .out) : ∃ k, m = k + 1 := by
  cases m with
  | zero => exact absurd h.eq hne
  | succ k => exact ⟨k, rfl⟩

theorem BinAt.stop {n lv least pos m : Nat} {r : Res (List T)} {t : T} {R : List Tok} (h : BinAt n lv least pos r (m + 1) t R) (hs : Bf.tight (hd R) = 0 ∨ Bf.tight (hd R) < least) : r = .ok [t] R := by
  rw [h.eq]
  rcases hs with hs | hs <;> simp [pRun, pStep, binTailB, hs]

theorem BinAt.go {n lv least pos m : Nat} {r : Res (List T)} {t : T} {R : List Tok} (h : BinAt n lv least pos r (m + 1) t R) (hne : r ≠ .out) (h1 : Bf.tight (hd R) ≠ 0) (h2 : ¬ Bf.tight (hd R) < least) :
    r = (pRun n (.binary lv (Bf.tight (hd R) + 1)) R.tail).bind fun b r' => pRun m (.binTail lv least pos (.node (binKind (Bf.tight (hd R))) pos (binText (Bf.tight (hd R)) (hd R).text) 0 (t :: b))) r' := by
  have h3 := h.eq
  have e : (Bf.tight (hd R) == 0 || decide (Bf.tight (hd R) < least)) = false := by simp [h1, h2]
  simp only [pRun, pStep, binTailB, e, Bool.false_eq_true, if_false] at h3
  have hm : pRun m (.binary lv (Bf.tight (hd R) + 1)) R.tail ≠ .out := fun e => hne (by rw [h3, e]; rfl)
  rw [pRun_mono (Nat.le_of_succ_le h.le) _ _ hm]
  exact h3

set_option maxRecDepth 100000 in
set_option maxHeartbeats 8000000 in
theorem binary_step (n : Nat) (ih : All n) (least : Nat) (hleast : least ≤ 20) : CallN 139 [.int .i64 least] (fun lv => .binary lv least) (n + 1) := by
  intro c w s R lv h hr hlv hle hne
  change Calls _ _ #[.pointer (some ⟨c.bp, 0, none⟩), .int .i64 least] w (PostN c w s (binaryB (pRun n) lv least R))
  have HN : Hid (binaryB (pRun n) lv least R ≠ .out) := hne
  have HL : Hid (s.lv = (lv : Int)) := hlv
  clear hne hlv
  have m0 := Mid.start h hr
  clear hr
  go_enter Tryz.func139, Tryz.ntmps139
  have h0 := m0.ps.c0
  have h1 := m0.ps.c1
  have hbp := m0.ps.bp_lt
  have hbl := m0.ps.bl_lt
  have hi := m0.ps.i
  have hlen := m0.ps.len
  have t0 := m0.ps.t0 m0.rem
  have t1 := m0.ps.t1 m0.rem
  have t2 := m0.ps.t2 m0.rem
  have t3 := m0.ps.t3 m0.rem
  go_wp2
  go_region
  clear h0 h1 hbp hbl hi hlen t0 t1 t2 t3
  have m1 := m0.below ((Below.refl _ _).drew)
  clear m0
  generalize w.drew = w2 at m1 ⊢
  go_wp2_with fail
  have HChc3 : Hid (pRun n (.unary lv) R ≠ .out) := fun e => HN.out (by simp [binaryB, Res.bind, e])
  refine (ih.unary _ _ _ _ _ m1.ps m1.rem (m1.lv HL.out) hle HChc3.out).mono ?_
  rintro e w4 hpost
  rcases hc3 : pRun n (.unary lv) R with ⟨tshc3, Rhc3⟩ | ⟨en, p⟩ | _
  rotate_left
  · rw [hc3] at hpost
    have hb2 := Bad.trans m1.fr hpost
    obtain ⟨rfl, _⟩ := hpost
    exact ⟨rfl, PostN.bad hb2 (by simp [binaryB, Res.bind, hc3])⟩
  · exact absurd hc3 HChc3.out
  rw [hc3] at hpost
  obtain ⟨shc3, khc3, thc3, rfl, rfl, mm⟩ := hpost
  have m5 := m1.call mm
  have Hhc3 := hidden hc3
  clear mm m1 hc3 HChc3
  have HB : BinAt n lv least (hd R).pos (binaryB (pRun n) lv least R) n thc3 Rhc3 := ⟨Nat.le_refl _, by simp [binaryB, Res.bind, Hhc3.out]⟩
  clear Hhc3
  go_wp2_with fail
  go_loopg [6] n (fun m u wr => ∃ (kk : Nat), ∃ si Ri t d, .int .i64 kk = u ∧ Mid c w s wr si Ri [t] [kk] d ∧ BinAt n lv least (hd R).pos (binaryB (pRun n) lv least R) m t Ri)
  case atStart => exact ⟨_, _, _, _, _, rfl, m5, HB⟩
  case round =>
    obtain ⟨kk, si, Ri, t, d, rfl, mr, HR⟩ := hrel
    clear m5 HB
    obtain ⟨m, rfl⟩ := HR.pos HN.out
    have h0 := mr.ps.c0
    have h1 := mr.ps.c1
    have hbp := mr.ps.bp_lt
    have hbl := mr.ps.bl_lt
    have hi := mr.ps.i
    have hlen := mr.ps.len
    have t0 := mr.ps.t0 mr.rem
    have t1 := mr.ps.t1 mr.rem
    have t2 := mr.ps.t2 mr.rem
    have t3 := mr.ps.t3 mr.rem
    go_wp2
    go_region
    clear h0 h1 hbp hbl hi hlen t0 t1 t2 t3
    obtain ⟨m7, g6⟩ := mr.held
    clear mr
    change Mid c w s ((wr.alloc (.cells #[.int .u8 (hd Ri).kind, .int .i64 (hd Ri).pos, .string ⟨(hd Ri).text.toArray⟩, .float .f64 (hd Ri).num] 59)).drew) _ _ _ _ _ at m7
    change Held c ((wr.alloc (.cells #[.int .u8 (hd Ri).kind, .int .i64 (hd Ri).pos, .string ⟨(hd Ri).text.toArray⟩, .float .f64 (hd Ri).num] 59)).drew) _ _ _ at g6
    generalize ((wr.alloc (.cells #[.int .u8 (hd Ri).kind, .int .i64 (hd Ri).pos, .string ⟨(hd Ri).text.toArray⟩, .float .f64 (hd Ri).num] 59)).drew) = w8 at m7 g6 ⊢
    have zt0 := g6.c0
    have zt1 := g6.c1
    have zt2 := g6.c2
    have zt3 := g6.c3
    have ztb : ¬ wr.heap.size = c.bp := fun e => g6.free (.inl e)
    have ztc : ¬ c.bp = wr.heap.size := fun e => g6.free (.inl e.symm)
    have ztl := g6.lt
    go_wp2_with fail
    clear zt0 zt1 zt2 zt3 ztb ztc ztl
    refine (tight_calls (hd Ri) _).mono ?_
    rintro e wt ⟨rfl, hb⟩
    have g6' := g6.below hb
    have m9 := m7.below hb
    clear m7
    have g10 := g6'
    clear g6' g6
    clear hb
    have htl := tight_le (hd Ri)
    have hte := tight_end (hd Ri)
    have hstop := fun hs => hidden (HR.stop hs)
    have hgo := fun h1 h2 => hidden (HR.go HN.out h1 h2)
    have HRle := HR.le
    clear HR
    generalize Bf.tight (hd Ri) = tn at htl hte hstop hgo ⊢
    by_cases hz : tn = 0
    · have hza : ((tn : Int) == 0) = true := by subst hz; rfl
      have hzb : (tn : Int) = 0 := by omega
      have HE := hstop (.inl hz)
      clear hstop hgo
      go_wp2_with fail
      go_ret
      exact PostN.fin m9 HE.out
    have hza : ((tn : Int) == 0) = false := by rw [show ((tn : Int) == 0) = (tn == 0) from beqK tn 0]; simpa using hz
    have hzb : ¬ (tn : Int) = 0 := by omega
    by_cases hlt : tn < least
    · have hla : (tn : Int) < (least : Int) := by omega
      have HE := hstop (.inr hlt)
      clear hstop hgo
      go_wp2_with fail
      go_ret
      exact PostN.fin m9 HE.out
    have hla : ¬ (tn : Int) < (least : Int) := by omega
    have HE := hgo hz hlt
    clear hgo hstop
    have zt0 := g10.c0
    have zt1 := g10.c1
    have zt2 := g10.c2
    have zt3 := g10.c3
    have ztb : ¬ wr.heap.size = c.bp := fun e => g10.free (.inl e)
    have ztc : ¬ c.bp = wr.heap.size := fun e => g10.free (.inl e.symm)
    have ztl := g10.lt
    have hmore := m9.ps.more m9.rem (fun e => hz (hte e))
    have h1 := m9.ps.c1
    have fz1 := m9.ps.fz 1
    have hlen := m9.ps.len
    have hnx := m9.ps.next hmore
    have m11 := m9.next hnx.1 hnx.2
    have g10' := g10.fr hnx.2
    have g12 := g10'
    clear g10' g10
    go_wp2_with fail
    clear h1 fz1 hlen hnx hmore zt0 zt1 zt2 zt3 ztb ztc ztl m9
    generalize (wt.setCell ⟨c.bp, 1, none⟩ (.int .i64 (((si).i : Int) + 1))) = w13 at m11 g12 ⊢
    have HChc14 : Hid (pRun n (.binary lv (tn + 1)) Ri.tail ≠ .out) := fun e => HN.out (by simp [HE.out, Res.bind, e])
    refine (ih.binary (tn + 1) (by omega) _ _ _ _ _ m11.ps m11.rem (m11.lv HL.out) hle HChc14.out).mono ?_
    rintro e w15 hpost
    rcases hc14 : pRun n (.binary lv (tn + 1)) Ri.tail with ⟨tshc14, Rhc14⟩ | ⟨en, p⟩ | _
    rotate_left
    · rw [hc14] at hpost
      have hb2 := Bad.trans m11.fr hpost
      obtain ⟨rfl, _⟩ := hpost
      exact ⟨rfl, PostN.bad hb2 (by simp [HE.out, Res.bind, hc14])⟩
    · exact absurd hc14 HChc14.out
    rw [hc14] at hpost
    obtain ⟨shc14, khc14, thc14, rfl, rfl, mm⟩ := hpost
    have m16 := m11.call mm
    have g12' := g12.fr mm.fr
    have g17 := g12'
    clear g12' g12
    have Hhc14 := hidden hc14
    clear mm m11 hc14 HChc14
    have HR : BinAt n lv least (hd R).pos (binaryB (pRun n) lv least R) m (.node (binKind tn) (hd R).pos (binText tn (hd Ri).text) 0 [t, thc14]) Rhc14 := ⟨by omega, by rw [HE.out, Hhc14.out]; rfl⟩
    clear HE hte htl hzb hza hz hla hlt Hhc14
    by_cases h3 : tn = 3
    · have ha3 : ((tn : Int) == 3) = true := by rw [show ((tn : Int) == 3) = (tn == 3) from beqK tn 3]; simpa using h3
      rw [show binKind tn = 41 from by simp [binKind, binText, h3], show binText tn (hd Ri).text = [] from by simp [binKind, binText, h3]] at HR
      have zt0 := g17.c0
      have zt1 := g17.c1
      have zt2 := g17.c2
      have zt3 := g17.c3
      have ztb : ¬ wr.heap.size = c.bp := fun e => g17.free (.inl e)
      have ztc : ¬ c.bp = wr.heap.size := fun e => g17.free (.inl e.symm)
      have ztl := g17.lt
      go_wp2_with fail
      clear zt0 zt1 zt2 zt3 ztb ztc ztl
      have nb19 : (Value.slice (some ⟨w15.heap.size, 0, none⟩) 2 2).ownBlock ≠ some wr.heap.size := by have := g17.lt; simp [Value.ownBlock]; omega
      have l18 : Lst c w (w15.alloc (.cells #[.int .i64 kk, .int .i64 khc14] 3)) _ (.slice (some ⟨w15.heap.size, 0, none⟩) 2 2) [kk, khc14] := Lst.made m16 [kk, khc14] (by simp)
      have g17' := g17.below ((Below.refl _ _).alloc (Nat.le_refl _) (.cells #[.int .i64 kk, .int .i64 khc14] 3))
      have m20 := m16.below ((Below.refl _ _).alloc (Nat.le_refl _) (.cells #[.int .i64 kk, .int .i64 khc14] 3))
      clear m16
      have g21 := g17'
      clear g17' g17
      generalize w15.alloc (.cells #[.int .i64 kk, .int .i64 khc14] 3) = w22 at m20 l18 g21 ⊢
      refine (node_mid m20 l18 h.room 41 (hd R).pos []).mono ?_
      rintro e w23 ⟨s25, k24, rfl, m26, hp⟩
      have g21' := g21.kept hp nb19
      clear hp m20
      have g27 := g21'
      clear g21' g21
      go_wp2_with fail
      go_roundg m
      case measure => omega
      case rel => exact ⟨_, _, _, _, _, rfl, m26, HR⟩
    have ha3 : ((tn : Int) == 3) = false := by rw [show ((tn : Int) == 3) = (tn == 3) from beqK tn 3]; simpa using h3
    by_cases h4 : tn = 4
    · have ha4 : ((tn : Int) == 4) = true := by rw [show ((tn : Int) == 4) = (tn == 4) from beqK tn 4]; simpa using h4
      rw [show binKind tn = 40 from by simp [binKind, binText, h3, h4], show binText tn (hd Ri).text = [] from by simp [binKind, binText, h3, h4]] at HR
      have zt0 := g17.c0
      have zt1 := g17.c1
      have zt2 := g17.c2
      have zt3 := g17.c3
      have ztb : ¬ wr.heap.size = c.bp := fun e => g17.free (.inl e)
      have ztc : ¬ c.bp = wr.heap.size := fun e => g17.free (.inl e.symm)
      have ztl := g17.lt
      go_wp2_with fail
      clear zt0 zt1 zt2 zt3 ztb ztc ztl
      have nb29 : (Value.slice (some ⟨w15.heap.size, 0, none⟩) 2 2).ownBlock ≠ some wr.heap.size := by have := g17.lt; simp [Value.ownBlock]; omega
      have l28 : Lst c w (w15.alloc (.cells #[.int .i64 kk, .int .i64 khc14] 3)) _ (.slice (some ⟨w15.heap.size, 0, none⟩) 2 2) [kk, khc14] := Lst.made m16 [kk, khc14] (by simp)
      have g17' := g17.below ((Below.refl _ _).alloc (Nat.le_refl _) (.cells #[.int .i64 kk, .int .i64 khc14] 3))
      have m30 := m16.below ((Below.refl _ _).alloc (Nat.le_refl _) (.cells #[.int .i64 kk, .int .i64 khc14] 3))
      clear m16
      have g31 := g17'
      clear g17' g17
      generalize w15.alloc (.cells #[.int .i64 kk, .int .i64 khc14] 3) = w32 at m30 l28 g31 ⊢
      refine (node_mid m30 l28 h.room 40 (hd R).pos []).mono ?_
      rintro e w33 ⟨s35, k34, rfl, m36, hp⟩
      have g31' := g31.kept hp nb29
      clear hp m30
      have g37 := g31'
      clear g31' g31
      go_wp2_with fail
      go_roundg m
      case measure => omega
      case rel => exact ⟨_, _, _, _, _, rfl, m36, HR⟩
    have ha4 : ((tn : Int) == 4) = false := by rw [show ((tn : Int) == 4) = (tn == 4) from beqK tn 4]; simpa using h4
    rw [show binKind tn = 39 from by simp [binKind, binText, h3, h4], show binText tn (hd Ri).text = (hd Ri).text from by simp [binKind, binText, h3, h4]] at HR
    have zt0 := g17.c0
    have zt1 := g17.c1
    have zt2 := g17.c2
    have zt3 := g17.c3
    have ztb : ¬ wr.heap.size = c.bp := fun e => g17.free (.inl e)
    have ztc : ¬ c.bp = wr.heap.size := fun e => g17.free (.inl e.symm)
    have ztl := g17.lt
    go_wp2_with fail
    clear zt0 zt1 zt2 zt3 ztb ztc ztl
    have nb39 : (Value.slice (some ⟨w15.heap.size, 0, none⟩) 2 2).ownBlock ≠ some wr.heap.size := by have := g17.lt; simp [Value.ownBlock]; omega
    have l38 : Lst c w (w15.alloc (.cells #[.int .i64 kk, .int .i64 khc14] 3)) _ (.slice (some ⟨w15.heap.size, 0, none⟩) 2 2) [kk, khc14] := Lst.made m16 [kk, khc14] (by simp)
    have g17' := g17.below ((Below.refl _ _).alloc (Nat.le_refl _) (.cells #[.int .i64 kk, .int .i64 khc14] 3))
    have m40 := m16.below ((Below.refl _ _).alloc (Nat.le_refl _) (.cells #[.int .i64 kk, .int .i64 khc14] 3))
    clear m16
    have g41 := g17'
    clear g17' g17
    generalize w15.alloc (.cells #[.int .i64 kk, .int .i64 khc14] 3) = w42 at m40 l38 g41 ⊢
    refine (node_mid m40 l38 h.room 39 (hd R).pos (hd Ri).text).mono ?_
    rintro e w43 ⟨s45, k44, rfl, m46, hp⟩
    have g41' := g41.kept hp nb39
    clear hp m40
    have g47 := g41'
    clear g41' g41
    go_wp2_with fail
    go_roundg m
    case measure => omega
    case rel => exact ⟨_, _, _, _, _, rfl, m46, HR⟩

end Go.Proofs.YtgdamcmfdhhheaaGreatDoor

/- The box of the deferred closing, carried along. -/
namespace Go.Proofs.YtgdamcmfdhhheaaGreatDoor
open Go.RowKit Bf

structure Box (c : Cx) (w : World) (s : St) (B : Nat) : Prop where
  cell : w.cell? ⟨B, 0, none⟩ = some (.pointer (some ⟨c.bp, 0, none⟩))
  free : ¬ Own c s B

section
variable {c : Cx} {w wi wj : World} {s si sj : St} {B : Nat}

theorem Box.lt (h : Box c wi si B) : B < wi.heap.size := World.block_lt_of_cell? wi ⟨B, 0, none⟩ h.cell
theorem Box.fr (h : Box c wi si B) (hf : Fr c wi si wj sj) : Box c wj sj B :=
  ⟨(World.cell?_of_block (a := ⟨B, 0, none⟩) (hf.block B h.lt h.free)).trans h.cell, fun ho => (hf.own B ho).elim h.free (fun hs => by have := h.lt; omega)⟩
theorem Box.below (h : Box c wi si B) (hb : Below wi.heap.size wi wj) : Box c wj si B := ⟨(World.cell?_of_block (a := ⟨B, 0, none⟩) (hb.block B h.lt)).trans h.cell, h.free⟩
theorem Box.grown (h : Box c wi si B) {row : Option Nat} (hg : wi.grownBy wj row) (hr : row ≠ some B) : Box c wj si B := ⟨(World.cell?_of_block (a := ⟨B, 0, none⟩) (hg.block B h.lt (Ne.symm hr))).trans h.cell, h.free⟩
theorem Box.kept {kv : Value} (h : Box c wi si B) (hp : Kept c wi si kv wj sj) (hk : kv.ownBlock ≠ some B) : Box c wj sj B :=
  ⟨(World.cell?_of_block (a := ⟨B, 0, none⟩) (hp.block B h.lt h.free)).trans h.cell, fun ho => (hp.own B ho).elim h.free (fun e => e.elim (fun e => by have := h.lt; omega) hk)⟩

theorem Box.thrown {en p : Nat} {e : Ending} {w' : World} {r : Res (List T)} (h : Box c wi si B) (hf : Fr c w s wi si) (post : Bad c wi si en p e w') (he : r = .err en p) : Thrown c w s r B (stopV en p) w' := by
  obtain ⟨_, s', hp, hfr⟩ := post
  exact ⟨en, p, he, rfl, ⟨s', hp, hf.trans hfr⟩, (h.fr hfr).cell⟩

theorem Fr.box (hps : PS c w s) (hf : Fr c w s wi si) (h : wi.cell? ⟨w.heap.size, 0, none⟩ = some (.pointer (some ⟨c.bp, 0, none⟩))) (hs : ∀ k, Own c si k → Own c s k) : Box c wi si w.heap.size :=
  ⟨h, fun ho => by have := (hps.own_ge (hs _ ho)).2; omega⟩
end

theorem nodeRow_get : ∀ (ns : List NodeA) (kvs : List Value) (k : Nat) (n : NodeA) (kv : Value), ns[k]? = some n → kvs[k]? = some kv → ∀ (j : Nat) (v : Value), (nodeVals n kv)[j]? = some v → (nodeRow ns kvs)[k * 5 + j]? = some v := by
  intro ns
  induction ns with
  | nil => intro kvs k n kv h; simp at h
  | cons n0 ns ih =>
    intro kvs k n kv h1 h2 j v hv
    cases kvs with
    | nil => simp at h2
    | cons kv0 kvs =>
      have e : nodeRow (n0 :: ns) (kv0 :: kvs) = nodeVals n0 kv0 ++ nodeRow ns kvs := by simp [nodeRow]
      have hlen : (nodeVals n0 kv0).length = 5 := rfl
      rw [e]
      cases k with
      | zero =>
        simp at h1 h2
        subst h1; subst h2
        rw [List.getElem?_append_left (by have := (List.getElem?_eq_some_iff.1 hv).1; omega), Nat.zero_mul, Nat.zero_add]
        exact hv
      | succ k =>
        rw [List.getElem?_append_right (by omega), hlen, show (k + 1) * 5 + j - 5 = k * 5 + j from by omega]
        exact ih kvs k n kv (by simpa using h1) (by simpa using h2) j v hv

/-- The kind of a node that lies. -/
theorem PS.node_kind {c : Cx} {w : World} {s : St} (h : PS c w s) {k : Nat} {t : T} (hr : Rep s.ns k t) :
    ∃ g cap : Nat, s.nv = .slice (some ⟨g, 0, none⟩) s.ns.length cap ∧ k < s.ns.length ∧ s.ns.length ≤ cap ∧ w.cell? ⟨g, k * 5, none⟩ = some (.int .u8 t.kind) := by
  obtain ⟨kind, pos, text, num, ts⟩ := t
  obtain ⟨ks, h1, _⟩ := hr
  have hk : k < s.ns.length := (List.getElem?_eq_some_iff.1 h1).1
  have h2 : s.kvs[k]? = some (s.kvs[k]'(by rw [h.kvs]; exact hk)) := List.getElem?_eq_getElem _
  have h3 := nodeRow_get s.ns s.kvs k _ _ h1 h2 0 (.int .u8 kind) rfl
  rcases h.ns.2 with ⟨_, hn⟩ | ⟨g, cap, cur, e, _, hg, hle, _, hsz, ht⟩
  · omega
  · refine ⟨g, cap, e, hk, hle, ?_⟩
    rw [← ht, List.getElem?_take_of_lt (by omega)] at h3
    have h4 : cur[k * 5]? = some (.int .u8 kind) := by simpa using h3
    simp [World.cell?, hg, h4, T.kind]

end Go.Proofs.YtgdamcmfdhhheaaGreatDoor

/- What the numbering of a tree (the closure that walks) leaves in memory: plain facts about rows of nodes. -/
namespace Go.Proofs.YtgdamcmfdhhheaaGreatDoor
open Go.RowKit Bf

def starts : Nat → List T → List Nat
  | _, [] => []
  | b, t :: ts => b :: starts (b + t.size) ts

mutual
def flat : Nat → T → List NodeA
  | b, .node kind pos text num ts => ⟨kind, pos, text, num, starts (b + 1) ts⟩ :: flatL (b + 1) ts
def flatL : Nat → List T → List NodeA
  | _, [] => []
  | b, t :: ts => flat b t ++ flatL (b + t.size) ts
end

mutual
theorem flat_length : ∀ (b : Nat) (t : T), (flat b t).length = t.size
  | b, .node kind pos text num ts => by simp [flat, T.size, flatL_length (b + 1) ts]
theorem flatL_length : ∀ (b : Nat) (ts : List T), (flatL b ts).length = sizeL ts
  | _, [] => rfl
  | b, t :: ts => by simp [flatL, sizeL, flat_length b t, flatL_length (b + t.size) ts]
end

theorem starts_append : ∀ (b : Nat) (a c : List T), starts b (a ++ c) = starts b a ++ starts (b + sizeL a) c
  | b, [], c => by simp [starts, sizeL]
  | b, t :: a, c => by simp [starts, sizeL, starts_append (b + t.size) a c, Nat.add_assoc]

theorem flatL_append : ∀ (b : Nat) (a c : List T), flatL b (a ++ c) = flatL b a ++ flatL (b + sizeL a) c
  | b, [], c => by simp [flatL, sizeL]
  | b, t :: a, c => by simp [flatL, sizeL, flatL_append (b + t.size) a c, Nat.add_assoc]

theorem starts_length : ∀ (b : Nat) (ts : List T), (starts b ts).length = ts.length
  | _, [] => rfl
  | b, t :: ts => by simp [starts, starts_length (b + t.size) ts]

structure Tx where
  c : Cx
  pb : Nat
  ob : Nat
  wb : Nat
  B : Nat

def Tx.fn (x : Tx) : Value := .func (.func 32) #[] #[.pointer (some ⟨x.pb, 0, none⟩), .pointer (some ⟨x.ob, 0, none⟩), .pointer (some ⟨x.wb, 0, none⟩)]

/-- What the numbering reads and leaves. -/
structure TB (x : Tx) (w : World) (s : St) : Prop where
  ps : PS x.c w s
  hp : w.heap[x.pb]? = some (.cells #[.pointer (some ⟨x.c.bp, 0, none⟩)] 69 (0, 0))
  hw : w.heap[x.wb]? = some (.cells #[x.fn] 74 (0, 0))
  pb : x.pb < x.B
  ob : x.ob < x.B
  wb : x.wb < x.B
  po : x.pb ≠ x.ob
  wo : x.wb ≠ x.ob
  lo : x.c.bl ≠ x.ob
  bp : x.c.bp < x.B
  free : ∀ k, Own x.c s k → k < x.B ∧ k ≠ x.ob
  B : x.B ≤ w.heap.size

/-- The row that is written. -/
structure TO (x : Tx) (w : World) (outv : Value) (os : List NodeA) (kvs : List Value) : Prop where
  ho : w.heap[x.ob]? = some (.cells #[outv] 23 (0, 0))
  out : w.ownsRow x.B 32 5 outv os.length (nodeRow os kvs)
  kvs : kvs.length = os.length

/-- How far the numbering has come since world w: ns are the nodes that were written whole. -/
structure Wk (x : Tx) (w : World) (outv : Value) (ns : List NodeA) (w' : World) (outv' : Value) (kvs' : List Value) : Prop where
  os : w'.os = w.os
  tape : w'.tape = w.tape
  output : w'.output = w.output
  size : w.heap.size ≤ w'.heap.size
  block : ∀ k, k < w.heap.size → k ≠ x.ob → outv.ownBlock ≠ some k → w'.heap[k]? = w.heap[k]?
  own : ∀ k, outv'.ownBlock = some k → outv.ownBlock = some k ∨ w.heap.size ≤ k
  rows : ∀ (i : Nat) (n : NodeA) (kv : Value), ns[i]? = some n → kvs'[i]? = some kv → w'.ownsRow w.heap.size 3 1 kv n.kids.length (ints n.kids)
  sep : ∀ kv : Value, kv ∈ kvs' → ∀ k, kv.ownBlock = some k → outv'.ownBlock ≠ some k
  len : kvs'.length = ns.length

theorem Wk.refl (x : Tx) (w : World) (v : Value) : Wk x w v [] w v [] :=
  ⟨rfl, rfl, rfl, Nat.le_refl _, fun _ _ _ _ => rfl, fun _ h => .inl h, by simp, by simp, rfl⟩

theorem ownsRow_base {w : World} {b b' e size : Nat} {v : Value} {n : Nat} {xs : List Value} (h : w.ownsRow b e size v n xs) (hb : b' ≤ b) : w.ownsRow b' e size v n xs := by
  refine ⟨h.1, ?_⟩
  rcases h.2 with hn | ⟨g, cap, cur, rfl, hb', rest⟩
  · exact .inl hn
  · exact .inr ⟨g, cap, cur, rfl, Nat.le_trans hb hb', rest⟩

theorem Wk.row {x : Tx} {w w' : World} {v v' : Value} {ns : List NodeA} {kvs : List Value} (h : Wk x w v ns w' v' kvs) {kv : Value} (hm : kv ∈ kvs) {k : Nat} (hk : kv.ownBlock = some k) : w.heap.size ≤ k ∧ k < w'.heap.size := by
  obtain ⟨i, hi, rfl⟩ := List.getElem_of_mem hm
  have hi' : i < ns.length := by rw [← h.len]; exact hi
  exact (h.rows i ns[i] kvs[i] (List.getElem?_eq_getElem hi') (List.getElem?_eq_getElem hi)).lt k hk

theorem Wk.trans {x : Tx} {w w1 w2 : World} {v v1 v2 : Value} {ns ms : List NodeA} {kvs lvs : List Value} (h : Wk x w v ns w1 v1 kvs) (k : Wk x w1 v1 ms w2 v2 lvs) (ho : x.ob < w.heap.size) :
    Wk x w v (ns ++ ms) w2 v2 (kvs ++ lvs) := by
  refine ⟨k.os.trans h.os, k.tape.trans h.tape, k.output.trans h.output, Nat.le_trans h.size k.size, fun b hb hn hv => ?_, fun b hb => ?_, fun i n kv h1 h2 => ?_, fun kv hm b hb => ?_, by simp [h.len, k.len]⟩
  · refine (k.block b (Nat.lt_of_lt_of_le hb h.size) hn (fun e => ?_)).trans (h.block b hb hn hv)
    rcases h.own b e with e' | e'
    · exact hv e'
    · omega
  · rcases k.own b hb with e | e
    · exact h.own b e
    · exact .inr (Nat.le_trans h.size e)
  · by_cases hi : i < ns.length
    · rw [List.getElem?_append_left hi] at h1
      rw [List.getElem?_append_left (by rw [h.len]; exact hi)] at h2
      refine ownsRow_same (h.rows i n kv h1 h2) (fun b hb => ?_)
      have hr := h.row (List.mem_of_getElem? h2) hb
      exact k.block b hr.2 (by omega) (h.sep kv (List.mem_of_getElem? h2) b hb)
    · rw [List.getElem?_append_right (by omega)] at h1
      rw [List.getElem?_append_right (by rw [h.len]; omega), h.len] at h2
      exact ownsRow_base (k.rows _ n kv h1 h2) h.size
  · rcases List.mem_append.1 hm with hm | hm
    · intro e
      have hr := h.row hm hb
      rcases k.own b e with e' | e'
      · exact h.sep kv hm b hb e'
      · omega
    · exact k.sep kv hm b hb

theorem TB.keep {x : Tx} {w w' : World} {s : St} (h : TB x w s) (hs : w.heap.size ≤ w'.heap.size) (hb : ∀ k, k < x.B → k ≠ x.ob → w'.heap[k]? = w.heap[k]?) : TB x w' s := by
  refine ⟨h.ps.keep fun k hk => ?_, (hb _ h.pb h.po).trans h.hp, (hb _ h.wb h.wo).trans h.hw, h.pb, h.ob, h.wb, h.po, h.wo, h.lo, h.bp, h.free, Nat.le_trans h.B hs⟩
  rcases hk with hk | rfl
  · exact hb k (h.free k hk).1 (h.free k hk).2
  · exact hb _ (by have := h.ps.bl; have := h.bp; omega) h.lo

theorem TO.ge {x : Tx} {w : World} {v : Value} {os : List NodeA} {kvs : List Value} (h : TO x w v os kvs) {k : Nat} (hk : v.ownBlock = some k) : x.B ≤ k ∧ k < w.heap.size := h.out.lt k hk

theorem TB.wk {x : Tx} {w w' : World} {s : St} {v v' : Value} {os ns : List NodeA} {kvs kvs' : List Value} (h : TB x w s) (o : TO x w v os kvs) (k : Wk x w v ns w' v' kvs') : TB x w' s :=
  h.keep k.size fun b hb hn => k.block b (Nat.lt_of_lt_of_le hb h.B) hn (fun e => by have := (o.ge e).1; omega)

theorem TO.form {x : Tx} {w : World} {v : Value} {os : List NodeA} {kvs : List Value} (h : TO x w v os kvs) : ∃ a c, v = .slice a os.length c := by
  rcases h.out.2 with ⟨rfl, hn⟩ | ⟨g, cap, cur, rfl, _⟩
  · exact ⟨none, 0, by rw [hn]⟩
  · exact ⟨_, _, rfl⟩

theorem TO.put {x : Tx} {w : World} {v : Value} {os : List NodeA} {kvs : List Value} (h : TO x w v os kvs) (hn : 0 < os.length) : ∃ g c, v = .slice (some ⟨g, 0, none⟩) os.length c ∧ os.length ≤ c := by
  rcases h.out.2 with ⟨rfl, hn⟩ | ⟨g, cap, cur, rfl, _, _, hc, _⟩
  · omega
  · exact ⟨_, _, rfl, hc⟩

theorem nodeRow_append : ∀ (a : List NodeA) (b : List Value) (c : List NodeA) (d : List Value), b.length = a.length → nodeRow (a ++ c) (b ++ d) = nodeRow a b ++ nodeRow c d := by
  intro a b c d h
  unfold nodeRow
  rw [List.zipWith_append h.symm]
  simp

theorem nodeRow_length : ∀ (a : List NodeA) (b : List Value), b.length = a.length → (nodeRow a b).length = a.length * 5
  | [], [], _ => rfl
  | n :: a, v :: b, h => by
    have e : nodeRow (n :: a) (v :: b) = nodeVals n v ++ nodeRow a b := by simp [nodeRow]
    have := nodeRow_length a b (by simpa using h)
    rw [e, List.length_append, this]
    simp [nodeVals]
    omega
  | [], _ :: _, h => by simp at h
  | _ :: _, [], h => by simp at h

theorem nodeRow_kids (a : List NodeA) (b : List Value) (n : NodeA) (v v' : Value) (c : List NodeA) (d : List Value) (h : b.length = a.length) :
    (nodeRow (a ++ n :: c) (b ++ v :: d)).set (a.length * 5 + 4) v' = nodeRow (a ++ n :: c) (b ++ v' :: d) := by
  have e : ∀ u, nodeRow (n :: c) (u :: d) = nodeVals n u ++ nodeRow c d := fun u => by simp [nodeRow]
  rw [nodeRow_append a b _ _ h, nodeRow_append a b _ _ h, e, e, List.set_append_right _ _ (by rw [nodeRow_length a b h]; omega), nodeRow_length a b h]
  simp [nodeVals]

/-- A cell of a row is set. -/
theorem ownsRow_set {w : World} {base e size : Nat} {g n cap : Nat} {xs : List Value} (h : w.ownsRow base e size (.slice (some ⟨g, 0, none⟩) n cap) n xs) (i : Nat) (v : Value) :
    (w.setCell ⟨g, i, none⟩ v).ownsRow base e size (.slice (some ⟨g, 0, none⟩) n cap) n (xs.set i v) := by
  refine ⟨by simpa using h.1, ?_⟩
  rcases h.2 with ⟨e, _⟩ | ⟨g', cap', cur, e, hb, hg, h1, h2, h3, h4⟩
  · cases e
  · cases e
    refine .inr ⟨g, cap, cur.setIfInBounds i v, rfl, hb, heap_set hg, h1, h2, by simpa using h3, ?_⟩
    rw [← h4]
    simp [List.take_set]

section
variable {x : Tx} {w w' : World} {v v' : Value} {os ns : List NodeA} {kvs kvs' : List Value}

/-- A block of nobody's is written, or made. -/
theorem Wk.other (h : Wk x w v ns w' v' kvs') {w2 : World} {b : Nat} (hb : w.heap.size ≤ b) (hg : w'.grownBy w2 (some b)) (hk : ∀ kv : Value, kv ∈ kvs' → kv.ownBlock ≠ some b) : Wk x w v ns w2 v' kvs' := by
  refine ⟨hg.os.trans h.os, hg.tape.trans h.tape, hg.output.trans h.output, Nat.le_trans h.size hg.size, fun k h1 h2 h3 => ?_, h.own, fun i n kv h1 h2 => ?_, h.sep, h.len⟩
  · exact (hg.block k (Nat.lt_of_lt_of_le h1 h.size) (fun e => by cases e; omega)).trans (h.block k h1 h2 h3)
  · refine ownsRow_same (h.rows i n kv h1 h2) (fun k e => hg.block k (h.row (List.mem_of_getElem? h2) e).2 (fun e' => ?_))
    cases e'
    exact hk kv (List.mem_of_getElem? h2) e

theorem TO.other (h : TO x w v os kvs) {w2 : World} {b : Nat} (ho : x.ob < w.heap.size) (hob : x.ob ≠ b) (hg : w.grownBy w2 (some b)) (hk : v.ownBlock ≠ some b) : TO x w2 v os kvs := by
  refine ⟨(hg.block _ ho (fun e => hob (by cases e; rfl))).trans h.ho, ownsRow_same h.out (fun k e => hg.block k (h.ge e).2 (fun e' => ?_)), h.kvs⟩
  cases e'
  exact hk e

/-- The node's own row of numbers is hung in. -/
theorem Wk.hang {n : NodeA} {kv0 kv : Value} {g cap : Nat} (hv : v' = .slice (some ⟨g, 0, none⟩) (os ++ n :: ns).length cap) (h : Wk x w v ns w' v' kvs') (o : TO x w' v' (os ++ n :: ns) (kvs ++ kv0 :: kvs')) (hk : kvs.length = os.length)
    (hob : x.ob < x.B)
    (hr : w'.ownsRow w.heap.size 3 1 kv n.kids.length (ints n.kids)) (hn : kv.ownBlock ≠ some g) :
    TO x (w'.setCell ⟨g, os.length * 5 + 4, none⟩ kv) v' (os ++ n :: ns) (kvs ++ kv :: kvs') ∧ Wk x w v (n :: ns) (w'.setCell ⟨g, os.length * 5 + 4, none⟩ kv) v' (kv :: kvs') := by
  have other : ∀ k, k ≠ g → (w'.setCell ⟨g, os.length * 5 + 4, none⟩ kv).heap[k]? = w'.heap[k]? := fun k hk => Below.heap_setCell w' ⟨g, os.length * 5 + 4, none⟩ kv k hk
  have hg : v'.ownBlock = some g := by rw [hv]; rfl
  have hgB := (o.ge hg).1
  constructor
  · refine ⟨(other _ (by omega)).trans o.ho, ?_, by simp [hk, h.len]⟩
    have := o.out
    rw [hv] at this ⊢
    have h2 := ownsRow_set this (os.length * 5 + 4) kv
    rw [nodeRow_kids _ _ _ _ _ _ _ hk] at h2
    exact h2
  · refine ⟨h.os, h.tape, h.output, by simpa [World.setCell] using h.size, fun k h1 h2 h3 => ?_, h.own, fun i m u h1 h2 => ?_, fun u hu k e => ?_, by simp [h.len]⟩
    · refine (other k (fun e => ?_)).trans (h.block k h1 h2 h3)
      subst e
      rcases h.own k hg with e | e
      · exact h3 e
      · omega
    · cases i with
      | zero =>
        simp at h1 h2
        subst h1; subst h2
        exact ownsRow_same hr (fun k e => other k (fun e' => by subst e'; exact hn e))
      | succ i =>
        simp at h1 h2
        refine ownsRow_same (h.rows i m u h1 h2) (fun k e => other k (fun e' => ?_))
        subst e'
        exact h.sep u (List.mem_of_getElem? h2) k e hg
    · rw [hg]
      rcases List.mem_cons.1 hu with rfl | hu
      · rw [e] at hn; exact fun e' => hn (by cases e'; rfl)
      · have := h.sep u hu k e
        rwa [hg] at this
end

/-- The node that is read. -/
theorem _root_.Bf.PS.node_cells {c : Cx} {w : World} {s : St} (h : PS c w s) {k : Nat} {kind pos num : Nat} {text : List UInt8} {ks : List Nat} (h1 : s.ns[k]? = some ⟨kind, pos, text, num, ks⟩) :
    ∃ (g cap : Nat) (kv : Value), s.nv = .slice (some ⟨g, 0, none⟩) s.ns.length cap ∧ k < s.ns.length ∧ s.ns.length ≤ cap ∧ s.kvs[k]? = some kv ∧ Row c w kv ks ∧ ks.length ≤ 16385 ∧ g < w.heap.size ∧
      w.cell? ⟨g, k * 5, none⟩ = some (.int .u8 kind) ∧ w.cell? ⟨g, k * 5 + 1, none⟩ = some (.int .i64 pos) ∧ w.cell? ⟨g, k * 5 + 2, none⟩ = some (.string ⟨text.toArray⟩) ∧
      w.cell? ⟨g, k * 5 + 3, none⟩ = some (.float .f64 num) ∧ w.cell? ⟨g, k * 5 + 4, none⟩ = some kv := by
  have hk : k < s.ns.length := (List.getElem?_eq_some_iff.1 h1).1
  have h2 : s.kvs[k]? = some (s.kvs[k]'(by rw [h.kvs]; exact hk)) := List.getElem?_eq_getElem _
  rcases h.ns.2 with ⟨_, hn⟩ | ⟨g, cap, cur, e, _, hg, hle, _, hsz, ht⟩
  · omega
  · have cell : ∀ j v, j < 5 → (nodeVals ⟨kind, pos, text, num, ks⟩ (s.kvs[k]'(by rw [h.kvs]; exact hk)))[j]? = some v → w.cell? ⟨g, k * 5 + j, none⟩ = some v := fun j v hj hv => by
      have h3 := nodeRow_get s.ns s.kvs k _ _ h1 h2 j v hv
      rw [← ht, List.getElem?_take_of_lt (by omega)] at h3
      have h4 : cur[k * 5 + j]? = some v := by simpa using h3
      simp [World.cell?, hg, h4]
    exact ⟨g, cap, _, e, hk, hle, h2, h.rows k _ _ h1 h2, h.small _ (List.mem_of_getElem? h1), (Array.getElem?_eq_some_iff.1 hg).1, cell 0 _ (by omega) rfl, cell 1 _ (by omega) rfl, cell 2 _ (by omega) rfl, cell 3 _ (by omega) rfl, cell 4 _ (by omega) rfl⟩

/-- A node is laid at the row's end. -/
theorem lay_node {x : Tx} {w wa w1 : World} {s : St} {v : Value} {os : List NodeA} {kvs : List Value} (hb : TB x w s) (ho : TO x w v os kvs) (n : NodeA) (kv0 : Value) (hba : Below w.heap.size w wa) (hgrow : wa.grownBy w1 v.ownBlock) (g cap : Nat)
    (hown : w1.ownsRow x.B 32 5 (.slice (some ⟨g, 0, none⟩) (os.length + 1) cap) (os.length + 1) (nodeRow os kvs ++ nodeVals n kv0)) (hat : v.ownBlock = some g ∨ g = wa.heap.size) :
    TB x (w1.setCell ⟨x.ob, 0, none⟩ (.slice (some ⟨g, 0, none⟩) (os.length + 1) cap)) s ∧
    TO x (w1.setCell ⟨x.ob, 0, none⟩ (.slice (some ⟨g, 0, none⟩) (os.length + 1) cap)) (.slice (some ⟨g, 0, none⟩) (os.length + 1) cap) (os ++ [n]) (kvs ++ [kv0]) ∧
    Wk x w v [] (w1.setCell ⟨x.ob, 0, none⟩ (.slice (some ⟨g, 0, none⟩) (os.length + 1) cap)) (.slice (some ⟨g, 0, none⟩) (os.length + 1) cap) [] := by
  have other : ∀ k, k ≠ x.ob → (w1.setCell ⟨x.ob, 0, none⟩ (.slice (some ⟨g, 0, none⟩) (os.length + 1) cap)).heap[k]? = w1.heap[k]? := fun k hk => Below.heap_setCell w1 ⟨x.ob, 0, none⟩ _ k hk
  have hwl := hb.ob
  have hB := hb.B
  have hs1 := hba.size
  have hs2 := hgrow.size
  have h1 : w1.heap[x.ob]? = some (.cells #[v] 23 (0, 0)) := (hgrow.block _ (by omega) (fun e => by have := (ho.ge e.symm).1; omega)).trans ((hba.block _ (by omega)).trans ho.ho)
  have hk : Wk x w v [] (w1.setCell ⟨x.ob, 0, none⟩ (.slice (some ⟨g, 0, none⟩) (os.length + 1) cap)) (.slice (some ⟨g, 0, none⟩) (os.length + 1) cap) [] := by
    refine ⟨hgrow.os.trans hba.os, hgrow.tape.trans hba.tape, hgrow.output.trans hba.output, by simp [World.setCell]; omega, fun k h1 h2 h3 => (other k h2).trans ((hgrow.block k (by omega) (Ne.symm h3)).trans (hba.block k h1)), fun k e => ?_, by simp, by simp, rfl⟩
    have e' : g = k := by simpa [Value.ownBlock] using e
    subst e'
    rcases hat with e | e
    · exact .inl e
    · exact .inr (by omega)
  refine ⟨hb.wk ho hk, ⟨by rw [heap_set h1]; rfl, ?_, by simp [ho.kvs]⟩, hk⟩
  rw [zipWith_snoc _ _ _ _ ho.kvs]
  simpa using ownsRow_setCell_below hown (a := ⟨x.ob, 0, none⟩) hwl _

end Go.Proofs.YtgdamcmfdhhheaaGreatDoor
