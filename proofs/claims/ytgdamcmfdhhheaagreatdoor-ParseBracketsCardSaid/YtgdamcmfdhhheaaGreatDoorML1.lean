/- The words of chapter 3 as functions on lists of bytes: plain Lean. -/
import Derived.Test.YtgdamcmfdhhheaaGreatDoorShelf
import Derived.Shelf.Strings.SlTrimAscii
import Derived.Test.YtgdamcmfdhhheaaGreatDoorMA1
import Derived.Test.YtgdamcmfdhhheaaGreatDoorRows
import Derived.WalkKit
import Derived.WalkSpells
import Derived.WalkLawsBesides
import Derived.Deep.LoopGhost
import Derived.Lib.Builder
import Derived.Lib.AppendStr
import Derived.Shelf.Strings.Builder1
import Derived.Deep.AppendLies
import Derived.OwnWalk
import Derived.Laws.Externs
set_option linter.all false

namespace Bf
open Go

def isLetter (b : UInt8) : Bool := (97 ≤ b.toNat && b.toNat ≤ 122) || (65 ≤ b.toNat && b.toNat ≤ 90) || b.toNat == 95 || b.toNat == 36
def isDigit (b : UInt8) : Bool := 48 ≤ b.toNat && b.toNat ≤ 57
def isQuote (b : UInt8) : Bool := b.toNat == 34 || b.toNat == 39
def bKind (b : UInt8) : Nat := if isLetter b then 1 else if isDigit b then 2 else if isQuote b then 3 else 0
def isNm (b : UInt8) : Bool := bKind b == 1 || bKind b == 2
def nameLen (s : List UInt8) : Nat := (s.takeWhile isNm).length

def wordsRow : List UInt8 := [32, 98, 114, 101, 97, 107, 32, 99, 97, 115, 101, 32, 99, 97, 116, 99, 104, 32, 99, 108, 97, 115, 115, 32, 99, 111, 110, 115, 116, 32, 99, 111, 110, 116, 105, 110, 117, 101, 32, 100, 101, 98, 117, 103, 103, 101, 114, 32, 100, 101, 102, 97, 117, 108, 116, 32, 100, 101, 108, 101, 116, 101, 32, 100, 111, 32, 101, 108, 115, 101, 32, 101, 110, 117, 109, 32, 101, 120, 112, 111, 114, 116, 32, 101, 120, 116, 101, 110, 100, 115, 32, 102, 97, 108, 115, 101, 32, 102, 105, 110, 97, 108, 108, 121, 32, 102, 111, 114, 32, 102, 117, 110, 99, 116, 105, 111, 110, 32, 105, 102, 32, 105, 109, 112, 111, 114, 116, 32, 105, 110, 32, 105, 110, 115, 116, 97, 110, 99, 101, 111, 102, 32, 108, 101, 116, 32, 110, 101, 119, 32, 110, 117, 108, 108, 32, 114, 101, 116, 117, 114, 110, 32, 115, 117, 112, 101, 114, 32, 115, 119, 105, 116, 99, 104, 32, 116, 104, 105, 115, 32, 116, 104, 114, 111, 119, 32, 116, 114, 117, 101, 32, 116, 114, 121, 32, 116, 121, 112, 101, 111, 102, 32, 118, 97, 114, 32, 118, 111, 105, 100, 32, 119, 104, 105, 108, 101, 32, 119, 105, 116, 104, 32, 121, 105, 101, 108, 100, 32]
def signsRow : List UInt8 := [32, 123, 32, 125, 32, 40, 32, 41, 32, 91, 32, 93, 32, 46, 32, 59, 32, 44, 32, 63, 32, 58, 32, 60, 32, 62, 32, 60, 61, 32, 62, 61, 32, 61, 61, 32, 33, 61, 32, 61, 61, 61, 32, 33, 61, 61, 32, 43, 32, 45, 32, 42, 32, 47, 32, 37, 32, 38, 32, 124, 32, 94, 32, 33, 32, 126, 32, 38, 38, 32, 124, 124, 32, 61, 32, 43, 61, 32, 45, 61, 32, 42, 61, 32, 47, 61, 32, 37, 61, 32, 60, 60, 32, 62, 62, 32, 62, 62, 62, 32]
def among (row s : List UInt8) : Bool := s != [] && !decide (0 ≤ Lib.indexByte s 32) && Lib.contains row ([32] ++ s ++ [32])
def word (s : List UInt8) : Bool := among wordsRow s
def sign (s : List UInt8) : Bool := among signsRow s

/-- Where a string that began with q ends: s is what is left, i its place. -/
def closedFrom (q : UInt8) : List UInt8 → Nat → Nat
  | [], _ => 0
  | b :: s, i =>
    if b = q then i
    else if b = 10 ∨ b = 13 then 0
    else if b = 92 then
      match s with
      | [] => 0
      | c :: s' => if c = 10 ∨ c = 13 then closedFrom q (c :: s') (i + 1) else closedFrom q s' (i + 2)
    else closedFrom q s (i + 1)

def closedN (s : List UInt8) : Nat := closedFrom (s.headD 0) s.tail 1

def worthB (c : UInt8) : Bool := (48 ≤ c.toNat && c.toNat ≤ 57) || (97 ≤ c.toNat && c.toNat ≤ 102)
def worthN (c : UInt8) : Nat := if 48 ≤ c.toNat && c.toNat ≤ 57 then c.toNat - 48 else if 97 ≤ c.toNat && c.toNat ≤ 102 then c.toNat - 97 + 10 else 0

/-- What stands behind a backslash: the byte, and how long it is; 0: none. -/
def escapeN (s : List UInt8) : UInt8 × Nat :=
  match s with
  | [] => (0, 0)
  | c :: r =>
    if c.toNat = 92 ∨ c.toNat = 34 ∨ c.toNat = 39 then (c, 1)
    else if c.toNat = 110 then (10, 1)
    else if c.toNat = 116 then (9, 1)
    else if c.toNat = 114 then (13, 1)
    else if c.toNat = 120 then
      match r with
      | a :: b :: _ => if worthB a && worthB b then (UInt8.ofNat (16 * worthN a + worthN b), 3) else (0, 0)
      | _ => (0, 0)
    else (0, 0)

/-- What stands between two quotes: the bytes, or the place of what is wrong. -/
def plainFrom : Nat → List UInt8 → Nat → List UInt8 → Except Nat (List UInt8)
  | 0, _, _, acc => .ok acc
  | _ + 1, [], _, acc => .ok acc
  | f + 1, b :: s, i, acc =>
    if b.toNat = 92 then
      if (escapeN s).2 = 0 then .error i else plainFrom f (s.drop (escapeN s).2) (i + 1 + (escapeN s).2) (acc ++ [(escapeN s).1])
    else plainFrom f s (i + 1) (acc ++ [b])

def plainN (s : List UInt8) : Except Nat (List UInt8) := plainFrom s.length s 0 []

end Bf

/- The small functions of package lex, walked. -/
namespace Go.Proofs.YtgdamcmfdhhheaaGreatDoor
open Go.RowKit Bf

theorem bget (l : List UInt8) (i : Nat) (h : i < (⟨l.toArray⟩ : ByteArray).size) : (⟨l.toArray⟩ : ByteArray)[i]'h = l[i]'(by simpa [ByteArray.size] using h) := rfl

theorem bext (s : List UInt8) (a b : Nat) : (⟨s.toArray⟩ : ByteArray).extract a b = ⟨((s.drop a).take (b - a)).toArray⟩ := by
  apply ByteArray.ext
  rw [ByteArray.data_extract]
  apply Array.toList_inj.1
  rw [Array.toList_extract, List.extract_eq_take_drop]

theorem bext_end (s : List UInt8) (a : Nat) : (⟨s.toArray⟩ : ByteArray).extract a s.length = ⟨(s.drop a).toArray⟩ := by
  rw [bext, List.take_of_length_le (by simp)]

theorem bext_zero (s : List UInt8) (n : Nat) : (⟨s.toArray⟩ : ByteArray).extract 0 n = ⟨(s.take n).toArray⟩ := by
  rw [bext]; simp

def LetterP (n : Nat) : Prop := (97 ≤ n ∧ n ≤ 122) ∨ (65 ≤ n ∧ n ≤ 90) ∨ n = 95 ∨ n = 36
theorem letter_iff (b : UInt8) : isLetter b = true ↔ LetterP b.toNat := by simp [isLetter, LetterP, or_assoc]
theorem digit_iff (b : UInt8) : isDigit b = true ↔ 48 ≤ b.toNat ∧ b.toNat ≤ 57 := by simp [isDigit]
theorem quote_iff (b : UInt8) : isQuote b = true ↔ b.toNat = 34 ∨ b.toNat = 39 := by simp [isQuote]

theorem bKind1 {b : UInt8} (h : LetterP b.toNat) : bKind b = 1 := by simp [bKind, (letter_iff b).2 h]
theorem bKind2 {b : UInt8} (h : ¬ LetterP b.toNat) (h2 : 48 ≤ b.toNat ∧ b.toNat ≤ 57) : bKind b = 2 := by simp [bKind, (digit_iff b).2 h2, (Bool.eq_false_iff.2 (fun e => h ((letter_iff b).1 e)))]
theorem bKind3 {b : UInt8} (h : ¬ LetterP b.toNat) (h2 : ¬ (48 ≤ b.toNat ∧ b.toNat ≤ 57)) (h3 : b.toNat = 34 ∨ b.toNat = 39) : bKind b = 3 := by
  simp [bKind, (quote_iff b).2 h3, (Bool.eq_false_iff.2 (fun e => h ((letter_iff b).1 e))), (Bool.eq_false_iff.2 (fun e => h2 ((digit_iff b).1 e)))]
theorem bKind0 {b : UInt8} (h : ¬ LetterP b.toNat) (h2 : ¬ (48 ≤ b.toNat ∧ b.toNat ≤ 57)) (h3 : ¬ (b.toNat = 34 ∨ b.toNat = 39)) : bKind b = 0 := by
  simp [bKind, (Bool.eq_false_iff.2 (fun e => h3 ((quote_iff b).1 e))), (Bool.eq_false_iff.2 (fun e => h ((letter_iff b).1 e))), (Bool.eq_false_iff.2 (fun e => h2 ((digit_iff b).1 e)))]

set_option maxRecDepth 100000 in
set_option maxHeartbeats 1000000 in
theorem kind_calls (b : UInt8) (w : World) : Calls Tryz.prog 46 #[.int .u8 (b.toNat : Nat)] w fun e w' => e = .returned (.int .i64 (bKind b : Nat)) ∧ w' = w := by
  go_enter Tryz.func46, Tryz.ntmps46
  go_wp2
  all_goals go_ret
  all_goals (
    simp only [beq_iff_eq, beq_eq_false_iff_ne, ne_eq] at *
    refine ⟨?_, by trivial⟩
    first
      | rw [bKind1 (b := b) (by unfold LetterP; omega)]; rfl
      | rw [bKind2 (b := b) (by unfold LetterP; omega) (by omega)]; rfl
      | rw [bKind3 (b := b) (by unfold LetterP; omega) (by omega) (by omega)]; rfl
      | rw [bKind0 (b := b) (by unfold LetterP; omega) (by omega) (by omega)]; rfl)


theorem nameLen_cons (b : UInt8) (s : List UInt8) : nameLen (b :: s) = if isNm b then nameLen s + 1 else 0 := by
  cases h : isNm b <;> simp [nameLen, List.takeWhile_cons, h]

set_option maxRecDepth 100000 in
set_option maxHeartbeats 1000000 in
theorem run_calls (s : List UInt8) (hs : s.length ≤ 65536) (w : World) : Calls Tryz.prog 47 #[.string ⟨s.toArray⟩] w fun e w' => e = .returned (.int .i64 (nameLen s : Nat)) ∧ w' = w := by
  go_enter Tryz.func47, Tryz.ntmps47
  go_wp2
  go_loopg [3] s.length (fun m u wr => ∃ n : Nat, .int .i64 (n : Nat) = u ∧ n + m = s.length ∧ wr = w ∧ nameLen s = n + nameLen (s.drop n))
  case atStart => exact ⟨0, rfl, by simp, rfl, by simp⟩
  case round =>
    obtain ⟨n, rfl, hm, rfl, hn⟩ := hrel
    by_cases h : n < s.length
    case neg =>
      have hl : ((n : Int) < (s.length : Int)) = False := by simp; omega
      go_wp2_with fail
      go_ret
      refine ⟨?_, rfl⟩
      rw [hn, List.drop_eq_nil_of_le (by omega)]
      rfl
    case pos =>
      have hl : ((n : Int) < (s.length : Int)) = True := by simp; omega
      have hd : s.drop n = s[n] :: s.drop (n + 1) := List.drop_eq_getElem_cons h
      rw [hd, nameLen_cons] at hn
      obtain ⟨m, rfl⟩ : ∃ m, gk = m + 1 := ⟨gk - 1, by omega⟩
      by_cases k1 : bKind s[n] = 1
      · have e1 : (((bKind s[n] : Nat) : Int) == 1) = true := by simp [k1]
        go_wp2_with (go_at_call 46; refine (kind_calls s[n] _).mono ?_; rintro e w' ⟨rfl, rfl⟩)
        go_roundg m
        case measure => omega
        case rel => exact ⟨n + 1, rfl, by omega, rfl, by rw [hn]; simp [isNm, k1]; omega⟩
      · have e1 : (((bKind s[n] : Nat) : Int) == 1) = false := by simp; omega
        by_cases k2 : bKind s[n] = 2
        · have e2 : (((bKind s[n] : Nat) : Int) == 2) = true := by simp [k2]
          go_wp2_with (go_at_call 46; refine (kind_calls s[n] _).mono ?_; rintro e w' ⟨rfl, rfl⟩)
          go_roundg m
          case measure => omega
          case rel => exact ⟨n + 1, rfl, by omega, rfl, by rw [hn]; simp [isNm, k2]; omega⟩
        · have e2 : (((bKind s[n] : Nat) : Int) == 2) = false := by simp; omega
          go_wp2_with (go_at_call 46; refine (kind_calls s[n] _).mono ?_; rintro e w' ⟨rfl, rfl⟩)
          go_ret
          refine ⟨?_, rfl⟩
          rw [hn]
          simp [isNm, k1, k2]

end Go.Proofs.YtgdamcmfdhhheaaGreatDoor

/- Words, signs and strings' ends, walked. -/
namespace Go.Proofs.YtgdamcmfdhhheaaGreatDoor
open Go.RowKit Bf

/-- What the walks ask of the variables that are laid. -/
def Ground (w : World) : Prop := ∃ m, w.cell? ⟨0, 0, none⟩ = some (.int .i64 m)

set_option maxRecDepth 100000 in
set_option maxHeartbeats 1000000 in
theorem among_calls (row s : List UInt8) (hr : row.length ≤ 400) (hs : s.length ≤ 65536) (w : World) (hg : Ground w) :
    Calls Tryz.prog 76 #[.string ⟨row.toArray⟩, .string ⟨s.toArray⟩] w fun e w' => e = .returned (.bool (among row s)) ∧ w' = w := by
  obtain ⟨m, hm⟩ := hg
  have hsz : (⟨s.toArray⟩ : ByteArray).size = s.length := by simp [ByteArray.size]
  go_enter Tryz.func76, Tryz.ntmps76
  by_cases h0 : s = []
  · subst h0
    go_wp2_with fail
    go_ret
    exact ⟨rfl, rfl⟩
  · have he : s.isEmpty = false := by cases s <;> simp at h0 ⊢
    have hne : (s != []) = true := by simpa using h0
    go_wp2_with fail
    refine (Tryz.strings_Contains_one ⟨s.toArray⟩ 32 w).mono ?_
    rintro e w' ⟨rfl, rfl⟩
    have hl : (⟨s.toArray⟩ : ByteArray).data.toList = s := rfl
    rw [hl]
    cases hb : decide (0 ≤ Lib.indexByte s 32) with
    | true =>
      go_wp2_with fail
      go_ret
      exact ⟨by simp [among, hb], rfl⟩
    | false =>
      go_wp2_with fail
      have h3 : ((⟨#[32]⟩ : ByteArray) ++ ⟨s.toArray⟩ ++ ⟨#[32]⟩).data.toList = [32] ++ s ++ [32] := by simp
      refine (Tryz.strings_Contains ⟨row.toArray⟩ _ m w' (by simp [ByteArray.size]; omega) hm).mono ?_
      rintro e w2 ⟨rfl, rfl⟩
      rw [h3]
      go_wp2_with fail
      go_ret
      exact ⟨by simp [among, hb, hne], rfl⟩

set_option maxRecDepth 100000 in
theorem word_calls (s : List UInt8) (hs : s.length ≤ 65536) (w : World) (hg : Ground w) :
    Calls Tryz.prog 48 #[.string ⟨s.toArray⟩] w fun e w' => e = .returned (.bool (word s)) ∧ w' = w := by
  go_enter Tryz.func48, Tryz.ntmps48
  go_wp2_with fail
  refine (among_calls wordsRow s (by decide) hs w hg).mono ?_
  rintro e w' ⟨rfl, rfl⟩
  go_wp2_with fail
  go_ret
  exact ⟨rfl, rfl⟩

set_option maxRecDepth 100000 in
theorem sign_calls (s : List UInt8) (hs : s.length ≤ 65536) (w : World) (hg : Ground w) :
    Calls Tryz.prog 54 #[.string ⟨s.toArray⟩] w fun e w' => e = .returned (.bool (sign s)) ∧ w' = w := by
  go_enter Tryz.func54, Tryz.ntmps54
  go_wp2_with fail
  refine (among_calls signsRow s (by decide) hs w hg).mono ?_
  rintro e w' ⟨rfl, rfl⟩
  go_wp2_with fail
  go_ret
  exact ⟨rfl, rfl⟩

theorem eq8 (a b : UInt8) : a = b ↔ a.toNat = b.toNat := by rw [UInt8.toNat_inj]

section
variable {q b c : UInt8} {s : List UInt8} {i : Nat}
theorem cl_eq (h : b.toNat = q.toNat) : closedFrom q (b :: s) i = i := by
  unfold closedFrom; simp [(eq8 b q).2 h]
theorem cl_nl (h : b.toNat ≠ q.toNat) (h1 : b.toNat = 10 ∨ b.toNat = 13) : closedFrom q (b :: s) i = 0 := by
  have e : b = 10 ∨ b = 13 := h1.imp (fun e => (eq8 b 10).2 e) (fun e => (eq8 b 13).2 e)
  have e0 : ¬ b = q := fun e => h (by rw [e])
  unfold closedFrom; simp only [e0, if_false, e, if_true]
theorem cl_plain (h : b.toNat ≠ q.toNat) (h1 : b.toNat ≠ 10) (h2 : b.toNat ≠ 13) (h3 : b.toNat ≠ 92) : closedFrom q (b :: s) i = closedFrom q s (i + 1) := by
  have e0 : ¬ b = q := fun e => h (by rw [e])
  have e1 : ¬ (b = 10 ∨ b = 13) := fun e => e.elim (fun e => h1 (by rw [e]; rfl)) (fun e => h2 (by rw [e]; rfl))
  have e2 : ¬ b = 92 := fun e => h3 (by rw [e]; rfl)
  rw [closedFrom.eq_def]; simp only; rw [if_neg e0, if_neg e1, if_neg e2]
theorem cl_end (h : b.toNat ≠ q.toNat) (h3 : b.toNat = 92) : closedFrom q [b] i = closedFrom q [] (i + 1) := by
  have e0 : ¬ b = q := fun e => h (by rw [e])
  have e1 : ¬ (b = 10 ∨ b = 13) := fun e => e.elim (fun e => by subst e; simp at h3) (fun e => by subst e; simp at h3)
  have e2 : b = 92 := (eq8 b 92).2 h3
  rw [closedFrom.eq_def]; simp only; rw [if_neg e0, if_neg e1, if_pos e2]; rfl
theorem cl_bsnl (h : b.toNat ≠ q.toNat) (h3 : b.toNat = 92) (h4 : c.toNat = 10 ∨ c.toNat = 13) : closedFrom q (b :: c :: s) i = closedFrom q (c :: s) (i + 1) := by
  have e0 : ¬ b = q := fun e => h (by rw [e])
  have e1 : ¬ (b = 10 ∨ b = 13) := fun e => e.elim (fun e => by subst e; simp at h3) (fun e => by subst e; simp at h3)
  have e2 : b = 92 := (eq8 b 92).2 h3
  have e : c = 10 ∨ c = 13 := h4.imp (fun e => (eq8 c 10).2 e) (fun e => (eq8 c 13).2 e)
  rw [closedFrom.eq_def]; simp only; rw [if_neg e0, if_neg e1, if_pos e2]; simp only [e, if_true]
theorem cl_bs (h : b.toNat ≠ q.toNat) (h3 : b.toNat = 92) (h4 : c.toNat ≠ 10) (h5 : c.toNat ≠ 13) : closedFrom q (b :: c :: s) i = closedFrom q s (i + 2) := by
  have e0 : ¬ b = q := fun e => h (by rw [e])
  have e1 : ¬ (b = 10 ∨ b = 13) := fun e => e.elim (fun e => by subst e; simp at h3) (fun e => by subst e; simp at h3)
  have e2 : b = 92 := (eq8 b 92).2 h3
  have e : ¬ (c = 10 ∨ c = 13) := fun e => e.elim (fun e => h4 (by rw [e]; rfl)) (fun e => h5 (by rw [e]; rfl))
  rw [closedFrom.eq_def]; simp only; rw [if_neg e0, if_neg e1, if_pos e2]; simp only [e, if_false]
end

set_option maxRecDepth 100000 in
set_option maxHeartbeats 1000000 in
theorem closed_calls (s : List UInt8) (hs : s.length ≤ 65536) (h0 : s ≠ []) (w : World) :
    Calls Tryz.prog 52 #[.string ⟨s.toArray⟩] w fun e w' => e = .returned (.int .i64 (closedN s : Nat)) ∧ w' = w := by
  have hpos : 0 < s.length := List.length_pos_iff.2 h0
  go_enter Tryz.func52, Tryz.ntmps52
  go_wp2_with fail
  go_loopg [3] s.length (fun m u wr => ∃ i : Nat, .int .i64 (i : Nat) = u ∧ 1 ≤ i ∧ i + m = s.length + 1 ∧ wr = w ∧ closedN s = closedFrom (s.headD 0) (s.drop i) i)
  case atStart => exact ⟨1, rfl, by omega, by omega, rfl, by simp [closedN]⟩
  case round =>
    obtain ⟨i, rfl, hi, hm, rfl, hn⟩ := hrel
    by_cases h : i < s.length
    case neg =>
      have hl : ((i : Int) < (s.length : Int)) = False := by simp; omega
      go_wp2_with fail
      go_ret
      refine ⟨?_, rfl⟩
      rw [hn, List.drop_eq_nil_of_le (by omega)]
      rfl
    case pos =>
      have hl : ((i : Int) < (s.length : Int)) = True := by simp; omega
      have hd : s.drop i = s[i] :: s.drop (i + 1) := List.drop_eq_getElem_cons h
      have hh : s.headD 0 = s[0] := by cases s <;> simp at h0 ⊢
      rw [hd, hh] at hn
      obtain ⟨m, rfl⟩ : ∃ m, gk = m + 1 := ⟨gk - 1, by omega⟩
      go_wp2_with fail
      all_goals simp only [beq_iff_eq, bne_iff_ne, beq_eq_false_iff_ne, bne_eq_false_iff_eq, ne_eq] at *
      all_goals (have gi : (⟨s.toArray⟩ : ByteArray)[i] = s[i] := rfl)
      all_goals (have g0 : (⟨s.toArray⟩ : ByteArray)[0] = s[0] := rfl)
      all_goals simp only [gi, g0] at *
      all_goals first
        | (go_ret; refine ⟨?_, rfl⟩; rw [hn, cl_eq (by omega)]; rfl)
        | (go_ret; refine ⟨?_, rfl⟩; rw [hn, cl_nl (by omega) (by omega)]; rfl)
        | (go_roundg m
           case measure => omega
           case rel => exact ⟨i + 1, rfl, by omega, by omega, rfl, by rw [hn, hh, cl_plain (by omega) (by omega) (by omega) (by omega)]⟩)
        | (have h1 : i + 1 < s.length := by omega
           have gi1 : (⟨s.toArray⟩ : ByteArray)[i + 1] = s[i + 1] := rfl
           have hd1 : s.drop (i + 1) = s[i + 1] :: s.drop (i + 2) := List.drop_eq_getElem_cons h1
           simp only [gi1] at *
           first
             | (go_roundg m
                case measure => omega
                case rel => exact ⟨i + 1, rfl, by omega, by omega, rfl, by rw [hn, hh, hd1, cl_bsnl (by omega) (by omega) (by omega)]⟩)
             | (go_roundg (m - 1)
                case measure => omega
                case rel => exact ⟨i + 2, rfl, by omega, by omega, rfl, by rw [hn, hh, hd1, cl_bs (by omega) (by omega) (by omega) (by omega)]⟩))
        | (have h1 : s.drop (i + 1) = [] := List.drop_eq_nil_of_le (by omega)
           go_roundg m
           case measure => omega
           case rel => exact ⟨i + 1, rfl, by omega, by omega, rfl, by rw [hn, hh, h1, cl_end (by omega) (by omega)]⟩)

end Go.Proofs.YtgdamcmfdhhheaaGreatDoor

/- The builder's writing over this dump (its copy check ends in a refusal here, so the shelf's laying does not fit). -/
namespace Go.Proofs.YtgdamcmfdhhheaaGreatDoor
open Go.RowKit Bf

theorem Tryz.sizeBuilder : (Tryz.prog.info? 83).map (·.size) = some 2 := by kernel_rfl
theorem Tryz.liesBuilder : liesAt Tryz.prog Tryz.prog.depth 83 (2 / Tryz.prog.cellsOf 83) 0 83 1 = true := by kernel_rfl
theorem Tryz.infoByte : (Tryz.prog.info? 5).map (fun i => (i.zero, i.size, i.bytes)) = some (some (.int .u8 0), 1, 1) := by kernel_rfl

/-- A builder of the call's own that bears these bytes. -/
abbrev IsB (B b : Nat) (l : List UInt8) (w : World) : Prop := Lib.IsBuilder 83 5 B b (Lib.byteCells l) w

set_option maxHeartbeats 1000000 in
set_option maxRecDepth 100000 in
theorem copyCheck_calls (B b : Nat) (bs : List Value) (w : World) (h : Lib.IsBuilder 83 5 B b bs w) :
    Calls Tryz.prog 69 #[.pointer (some ⟨b, 0, none⟩)] w fun e w' => e = .returned (.tuple #[]) ∧ Lib.BuilderAt 83 5 B b (.pointer (some ⟨b, 0, none⟩)) bs w' ∧ Below B w w' := by
  obtain ⟨j, hj, hjs⟩ := Option.map_eq_some_iff.1 Tryz.sizeBuilder
  rcases h with h | h
  · have h0 := h.cell0
    have hf := h.frozen0
    have hsh := h.shape
    go_enter Tryz.func69, Tryz.ntmps69
    go_wp2
    rw [Lib.run_to_unsafe w ⟨b, 0, none⟩ Tryz.underlying81 Tryz.underlying135 hj (by rw [hjs]; decide) hsh (Nat.zero_lt_succ 1)]
    simp only [Result.andThen]
    rw [Oper.upon_value]
    go_wp2
    rw [run_callFunc_extern Tryz.func109 (by kernel_rfl) (by kernel_rfl) (by kernel_rfl) (e := Extern.AbiNoEscape.same) (by kernel_rfl)]
    rw [Lib.run_noEscape]
    simp only [Result.andThen]
    rw [Oper.upon_value]
    go_wp2
    rw [Lib.run_from_unsafe w ⟨b, 0, none⟩ Tryz.underlying135 Tryz.underlying81 hj hsh Tryz.liesBuilder]
    simp only [Result.andThen]
    rw [Oper.upon_value]
    go_wp2
    go_end0
    exact ⟨rfl, h.used _, (Below.refl B w).setCell (p := ⟨b, 0, none⟩) h.1 _⟩
  · have h0 := h.cell0
    go_enter Tryz.func69, Tryz.ntmps69
    go_wp2
    rw [Lib.run_neq_ptr_same w _ Tryz.underlying81 hj]
    go_wp2
    go_end0
    exact ⟨rfl, h, Below.refl B _⟩

theorem byteCells_append (l m : List UInt8) : Lib.byteCells (l ++ m) = Lib.byteCells l ++ Lib.byteCells m := by simp [Lib.byteCells]
theorem byteCells_length (l : List UInt8) : (Lib.byteCells l).length = l.length := by simp [Lib.byteCells]

set_option maxHeartbeats 2000000 in
set_option maxRecDepth 100000 in
theorem writeByte_calls (B b : Nat) (l : List UInt8) (x : UInt8) (w : World) (h : IsB B b l w) (hlen : l.length ≤ 1000000) (hBw : B ≤ w.heap.size) :
    Calls Tryz.prog 37 #[.pointer (some ⟨b, 0, none⟩), .int .u8 (x.toNat : Nat)] w fun e w' => e = .returned .nilIface ∧ IsB B b (l ++ [x]) w' ∧ Below B w w' := by
  obtain ⟨i0, hi, hz0, hz1, hz2⟩ := info_parts Tryz.infoByte
  go_enter Tryz.func37, Tryz.ntmps37
  go_wp2_with (go_at_call 69; refine (copyCheck_calls B b _ _ h).mono ?_)
  rintro e w1 ⟨rfl, h1, hb1⟩
  obtain ⟨hB, v, hbk, hown, hne⟩ := h1
  have c0 : w1.cell? ⟨b, 0, none⟩ = some (.pointer (some ⟨b, 0, none⟩)) := by rw [Lib.cell_of_heap hbk]; rfl
  have c1 : w1.cell? ⟨b, 1, none⟩ = some v := by rw [Lib.cell_of_heap hbk]; rfl
  have hsz1 := hb1.size
  go_wp2_with (at_builtin; refine wpList_append_own _ rfl _ _ 40 rfl B 5 i0 (.int .u8 0) 1 1 Tryz.underlying40 hi hz0 hz1 hz2 rfl (by decide) _ _ _ rfl (hown.alloc _) ⟨w1.heap.size, 0, none⟩ 1 1 [.int .u8 (x.toNat : Nat)] rfl rfl ?c1 ?c2 ?c3 ?c4 ?c5 ?_)
  case c1 => exact World.news_of_block (cs := #[.int .u8 (x.toNat : Nat)]) (t := 5) (fr := (0, 0)) (heap_alloc_new w1 _)
  case c2 => intro u hu; simp at hu; subst hu; rfl
  case c3 => rw [byteCells_length]; unfold maxLen; omega
  case c4 => rw [byteCells_length]; omega
  case c5 => simp; omega
  intro v' w2 hown' hgrow _
  have hlt : b < w1.heap.size := (Array.getElem?_eq_some_iff.1 hbk).1
  have hb2 : w2.heap[b]? = some (.cells #[.pointer (some ⟨b, 0, none⟩), v] 83 (0, 0)) := by
    rw [hgrow.block b (by simp; omega) (fun e => hne e.symm), Lib.alloc_old w1 _ b hlt]
    exact hbk
  have d0 : w2.cell? ⟨b, 0, none⟩ = some (.pointer (some ⟨b, 0, none⟩)) := by rw [Lib.cell_of_heap hb2]; rfl
  have d1 : w2.cell? ⟨b, 1, none⟩ = some v := by rw [Lib.cell_of_heap hb2]; rfl
  have f1 : w2.frozen? ⟨b, 1, none⟩ = false := Lib.frozen_of_heap hb2 1
  obtain ⟨g, cap, rfl⟩ : ∃ g cap, v' = .slice (some ⟨g, 0, none⟩) ((Lib.byteCells l).length + 1) cap := by
    rcases hown'.2 with ⟨_, h0⟩ | ⟨g, cap, cur, hv, _⟩
    · omega
    · exact ⟨g, cap, hv⟩
  go_wp2_with fail
  go_ret
  refine ⟨rfl, Or.inr ?_, ?_⟩
  · exact Lib.BuilderAt.put (T := 83) (e := 5) hB hb2 (bs' := Lib.byteCells (l ++ [x])) (by rw [byteCells_append]; simpa [Lib.byteCells] using hown') (by decide)
  · exact ((hb1.alloc (by omega) _).grown hgrow (by simp; omega) (fun k hk => (hown.lt k hk).1)).setCell (p := ⟨b, 1, none⟩) hB _

set_option maxHeartbeats 2000000 in
set_option maxRecDepth 100000 in
theorem writeString_calls (B b : Nat) (l s : List UInt8) (w : World) (h : IsB B b l w) (hlen : l.length ≤ 1000000) (hs : s.length ≤ 1000000) (hBw : B ≤ w.heap.size) :
    Calls Tryz.prog 38 #[.pointer (some ⟨b, 0, none⟩), .string ⟨s.toArray⟩] w fun e w' => e = .returned (.tuple #[.int .i64 (s.length : Nat), .nilIface]) ∧ IsB B b (l ++ s) w' ∧ Below B w w' := by
  obtain ⟨i0, hi, hz0, hz1, hz2⟩ := info_parts Tryz.infoByte
  have hsz : (⟨s.toArray⟩ : ByteArray).size = s.length := by simp [ByteArray.size]
  go_enter Tryz.func38, Tryz.ntmps38
  go_wp2_with (go_at_call 69; refine (copyCheck_calls B b _ _ h).mono ?_)
  rintro e w1 ⟨rfl, h1, hb1⟩
  obtain ⟨hB, v, hbk, hown, hne⟩ := h1
  have c0 : w1.cell? ⟨b, 0, none⟩ = some (.pointer (some ⟨b, 0, none⟩)) := by rw [Lib.cell_of_heap hbk]; rfl
  have c1 : w1.cell? ⟨b, 1, none⟩ = some v := by rw [Lib.cell_of_heap hbk]; rfl
  have hsz1 := hb1.size
  go_wp2_with (at_builtin; refine Lib.wpList_append_own_string _ rfl _ _ 40 9 rfl B 5 i0 Tryz.underlying40 Tryz.underlying9 hi hz0 hz1 hz2 _ _ _ rfl hown ⟨s.toArray⟩ rfl ?c3 ?c4 ?c5 ?_)
  case c3 => rw [byteCells_length, hsz]; unfold maxLen; omega
  case c4 => rw [byteCells_length, hsz]; omega
  case c5 => omega
  intro v' w2 hown' hgrow _
  have hlt : b < w1.heap.size := (Array.getElem?_eq_some_iff.1 hbk).1
  have hb2 : w2.heap[b]? = some (.cells #[.pointer (some ⟨b, 0, none⟩), v] 83 (0, 0)) := by
    rw [hgrow.block b hlt (fun e => hne e.symm)]
    exact hbk
  have d0 : w2.cell? ⟨b, 0, none⟩ = some (.pointer (some ⟨b, 0, none⟩)) := by rw [Lib.cell_of_heap hb2]; rfl
  have d1 : w2.cell? ⟨b, 1, none⟩ = some v := by rw [Lib.cell_of_heap hb2]; rfl
  have f1 : w2.frozen? ⟨b, 1, none⟩ = false := Lib.frozen_of_heap hb2 1
  obtain ⟨ao, n', cap, rfl⟩ : ∃ ao n' cap, v' = .slice ao n' cap := by
    rcases hown'.2 with ⟨hv, _⟩ | ⟨g, cap, cur, hv, _⟩
    · exact ⟨none, 0, 0, hv⟩
    · exact ⟨_, _, cap, hv⟩
  have hcells : Lib.byteCells (l ++ s) = Lib.byteCells l ++ Lib.strCells ⟨s.toArray⟩ := by rw [byteCells_append]; rfl
  go_wp2_with fail
  go_ret2
  refine ⟨rfl, Or.inr ?_, ?_⟩
  · refine Lib.BuilderAt.put (T := 83) (e := 5) hB hb2 (bs' := Lib.byteCells (l ++ s)) ?_ (by decide)
    rw [hcells, List.length_append, Lib.strCells_length]
    exact hown'
  · exact (hb1.grown hgrow (by omega) (fun k hk => (hown.lt k hk).1)).setCell (p := ⟨b, 1, none⟩) hB _

end Go.Proofs.YtgdamcmfdhhheaaGreatDoor

/- str.Plain, walked. -/
namespace Go.Proofs.YtgdamcmfdhhheaaGreatDoor
open Go.RowKit Bf

section
variable {c : UInt8}
theorem worth_dig (h : 48 ≤ c.toNat ∧ c.toNat ≤ 57) : worthN c = c.toNat - 48 ∧ worthB c = true := by simp [worthN, worthB, h]
theorem worth_let (h : 97 ≤ c.toNat ∧ c.toNat ≤ 102) : worthN c = c.toNat - 97 + 10 ∧ worthB c = true := by
  have : ¬ c.toNat ≤ 57 := by omega
  simp [worthN, worthB, h, this]
theorem worth_no (h : ¬ (48 ≤ c.toNat ∧ c.toNat ≤ 57)) (h2 : ¬ (97 ≤ c.toNat ∧ c.toNat ≤ 102)) : worthN c = 0 ∧ worthB c = false := by
  have e1 : (decide (48 ≤ c.toNat) && decide (c.toNat ≤ 57)) = false := by simp; omega
  have e2 : (decide (97 ≤ c.toNat) && decide (c.toNat ≤ 102)) = false := by simp; omega
  simp [worthN, worthB, e1, e2]
theorem worth_lt : worthN c < 16 := by
  by_cases h : 48 ≤ c.toNat ∧ c.toNat ≤ 57
  · rw [(worth_dig h).1]; omega
  · by_cases h2 : 97 ≤ c.toNat ∧ c.toNat ≤ 102
    · rw [(worth_let h2).1]; omega
    · rw [(worth_no h h2).1]; omega
end

set_option maxRecDepth 100000 in
set_option maxHeartbeats 1000000 in
theorem worth_calls (c : UInt8) (w : World) : Calls Tryz.prog 122 #[.int .u8 (c.toNat : Nat)] w fun e w' => e = .returned (.tuple #[.int .u8 (worthN c : Nat), .bool (worthB c)]) ∧ w' = w := by
  go_enter Tryz.func122, Tryz.ntmps122
  go_wp2
  all_goals go_ret2
  all_goals (refine ⟨?_, rfl⟩)
  all_goals first
    | (have e := worth_dig (c := c) (by omega)
       have e3 : ((c.toNat - 48 : Nat) : Int) = (c.toNat : Int) - 48 := by omega
       rw [e.1, e.2, e3]; rfl)
    | (have e := worth_let (c := c) (by omega)
       have e3 : ((c.toNat - 97 + 10 : Nat) : Int) = (c.toNat : Int) - 97 + 10 := by omega
       rw [e.1, e.2, e3]; rfl)
    | (have e := worth_no (c := c) (by omega) (by omega)
       rw [e.1, e.2]; rfl)

theorem bits_or : ∀ a b : Fin 16, bits BinOp.or IntKind.u8 ((a.val : Int) * 16 % 256) (b.val : Int) = ((16 * a.val + b.val : Nat) : Int) := by decide

section
variable {c x y : UInt8} {r : List UInt8}
theorem es_self (h : c.toNat = 92 ∨ c.toNat = 34 ∨ c.toNat = 39) : escapeN (c :: r) = (c, 1) := by simp only [escapeN]; rw [if_pos h]
theorem es_n (h : c.toNat = 110) : escapeN (c :: r) = (10, 1) := by simp only [escapeN]; rw [if_neg (by omega), if_pos h]
theorem es_t (h : c.toNat = 116) : escapeN (c :: r) = (9, 1) := by simp only [escapeN]; rw [if_neg (by omega), if_neg (by omega), if_pos h]
theorem es_r (h : c.toNat = 114) : escapeN (c :: r) = (13, 1) := by simp only [escapeN]; rw [if_neg (by omega), if_neg (by omega), if_neg (by omega), if_pos h]
theorem es_x0 (h : c.toNat = 120) : escapeN [c] = (0, 0) := by simp only [escapeN]; rw [if_neg (by omega), if_neg (by omega), if_neg (by omega), if_neg (by omega), if_pos h]
theorem es_x1 (h : c.toNat = 120) : escapeN [c, x] = (0, 0) := by simp only [escapeN]; rw [if_neg (by omega), if_neg (by omega), if_neg (by omega), if_neg (by omega), if_pos h]
theorem es_x (h : c.toNat = 120) (h2 : worthB x = true) (h3 : worthB y = true) : escapeN (c :: x :: y :: r) = (UInt8.ofNat (16 * worthN x + worthN y), 3) := by
  simp only [escapeN]; rw [if_neg (by omega), if_neg (by omega), if_neg (by omega), if_neg (by omega), if_pos h, h2, h3]; rfl
theorem es_xno (h : c.toNat = 120) (h2 : (worthB x && worthB y) = false) : escapeN (c :: x :: y :: r) = (0, 0) := by
  simp only [escapeN]; rw [if_neg (by omega), if_neg (by omega), if_neg (by omega), if_neg (by omega), if_pos h, h2]; rfl
theorem es_no (h : ¬ (c.toNat = 92 ∨ c.toNat = 34 ∨ c.toNat = 39)) (h1 : c.toNat ≠ 110) (h2 : c.toNat ≠ 116) (h3 : c.toNat ≠ 114) (h4 : c.toNat ≠ 120) : escapeN (c :: r) = (0, 0) := by
  simp only [escapeN]; rw [if_neg h, if_neg h1, if_neg h2, if_neg h3, if_neg h4]
end

set_option maxRecDepth 100000 in
set_option maxHeartbeats 2000000 in
theorem escape_calls (s : List UInt8) (hs : s.length ≤ 65536) (w : World) : Calls Tryz.prog 88 #[.string ⟨s.toArray⟩] w fun e w' => e = .returned (.tuple #[.int .u8 ((escapeN s).1.toNat : Nat), .int .i64 ((escapeN s).2 : Nat)]) ∧ w' = w := by
  go_enter Tryz.func88, Tryz.ntmps88
  cases s with
  | nil =>
    go_wp2_with fail
    go_ret2
    exact ⟨rfl, rfl⟩
  | cons c r =>
    have he : (c :: r).isEmpty = false := rfl
    rcases r with _ | ⟨x, _ | ⟨y, t⟩⟩
    · go_wp2_with fail
      all_goals go_ret2
      all_goals (refine ⟨?_, rfl⟩)
      all_goals simp only [beq_iff_eq, beq_eq_false_iff_ne, ne_eq, bget, List.getElem_cons_zero] at *
      all_goals first
        | (rw [es_self (by omega)]; rfl)
        | (rw [es_n (by omega)]; rfl)
        | (rw [es_t (by omega)]; rfl)
        | (rw [es_r (by omega)]; rfl)
        | (rw [es_x0 (by omega)]; rfl)
        | (rw [es_no (by omega) (by omega) (by omega) (by omega) (by omega)]; rfl)
    · go_wp2_with fail
      all_goals go_ret2
      all_goals (refine ⟨?_, rfl⟩)
      all_goals simp only [beq_iff_eq, beq_eq_false_iff_ne, ne_eq, bget, List.getElem_cons_zero] at *
      all_goals first
        | (rw [es_self (by omega)]; rfl)
        | (rw [es_n (by omega)]; rfl)
        | (rw [es_t (by omega)]; rfl)
        | (rw [es_r (by omega)]; rfl)
        | (rw [es_x1 (by omega)]; rfl)
        | (rw [es_no (by omega) (by omega) (by omega) (by omega) (by omega)]; rfl)
    · have g0 : ∀ h, (⟨(c :: x :: y :: t).toArray⟩ : ByteArray)[0]'h = c := fun _ => rfl
      have g1 : ∀ h, (⟨(c :: x :: y :: t).toArray⟩ : ByteArray)[1]'h = x := fun _ => rfl
      have g2 : ∀ h, (⟨(c :: x :: y :: t).toArray⟩ : ByteArray)[2]'h = y := fun _ => rfl
      have hl : ((c :: x :: y :: t).length : Int) = t.length + 3 := by simp; omega
      by_cases h120 : c.toNat = 120
      · cases hx : worthB x <;> cases hy : worthB y
        all_goals go_wp2_with (go_at_call 122; refine (worth_calls _ _).mono ?_; rintro e w' ⟨rfl, rfl⟩; simp only [g1, g2, hx, hy])
        all_goals go_ret2
        all_goals (refine ⟨?_, rfl⟩)
        · rw [es_xno h120 (by simp [hx])]; rfl
        · rw [es_xno h120 (by simp [hx])]; rfl
        · rw [es_xno h120 (by simp [hy])]; rfl
        · have h1 := worth_lt (c := x)
          have h2 := worth_lt (c := y)
          rw [es_x h120 hx hy]
          have h3 := bits_or ⟨worthN x, h1⟩ ⟨worthN y, h2⟩
          simp only at h3
          have h4 : (UInt8.ofNat (16 * worthN x + worthN y)).toNat = 16 * worthN x + worthN y := by simp [UInt8.toNat_ofNat']; omega
          rw [h4, ← h3]; rfl
      · go_wp2_with fail
        all_goals go_ret2
        all_goals (refine ⟨?_, rfl⟩)
        all_goals simp only [beq_iff_eq, beq_eq_false_iff_ne, ne_eq, bget, List.getElem_cons_zero] at *
        all_goals first
          | (rw [es_self (by omega)]; rfl)
          | (rw [es_n (by omega)]; rfl)
          | (rw [es_t (by omega)]; rfl)
          | (rw [es_r (by omega)]; rfl)
          | (rw [es_no (by omega) (by omega) (by omega) (by omega) (by omega)]; rfl)

end Go.Proofs.YtgdamcmfdhhheaaGreatDoor

/- str.Plain, walked. -/
namespace Go.Proofs.YtgdamcmfdhhheaaGreatDoor
open Go.RowKit Bf

def plainV (s : List UInt8) : List Value :=
  match plainN s with
  | .ok t => if t.length ≤ 4096 then [.string ⟨t.toArray⟩, .int .i64 0, .int .i64 0] else [.string ⟨#[]⟩, .int .i64 0, .int .i64 20]
  | .error i => [.string ⟨#[]⟩, .int .i64 (i : Nat), .int .i64 5]

theorem escape_le (s : List UInt8) : (escapeN s).2 ≤ s.length := by
  unfold escapeN
  cases s with
  | nil => simp
  | cons c r =>
    simp only
    repeat' split
    all_goals simp

set_option maxRecDepth 100000 in
set_option maxHeartbeats 2000000 in
theorem plain_calls (s : List UInt8) (hs : s.length ≤ 65536) (w : World) : Calls Tryz.prog 53 #[.string ⟨s.toArray⟩] w fun e w' => e = .returned (.tuple (plainV s).toArray) ∧ Below w.heap.size w w' := by
  have hl0 : ((65536 : Int) < (s.length : Int)) = False := by simp; omega
  go_enter Tryz.func53, Tryz.ntmps53
  go_wp2_with fail
  go_loopg [6] s.length (fun m u wr => ∃ (i : Nat) (acc : List UInt8), .int .i64 (i : Nat) = u ∧ i ≤ s.length ∧ s.length ≤ i + m ∧ acc.length ≤ i ∧ IsB w.heap.size w.heap.size acc wr ∧ Below w.heap.size w wr ∧ plainN s = plainFrom m (s.drop i) i acc)
  case atStart => exact ⟨0, [], rfl, by omega, by omega, by simp, Lib.fresh_isBuilder _ _ w, (Below.refl _ _).alloc (Nat.le_refl _) _, rfl⟩
  case round =>
    obtain ⟨i, acc, rfl, hi, hm, hacc, hb, hbel, hn⟩ := hrel
    have hwr := hbel.size
    by_cases h : i < s.length
    case neg =>
      have hl : ((i : Int) < (s.length : Int)) = False := by simp; omega
      have hp : plainN s = .ok acc := by
        rw [hn, List.drop_eq_nil_of_le (by omega)]
        cases gk <;> rfl
      have hq : (Lib.byteCells acc).length = acc.length := byteCells_length acc
      by_cases h4 : acc.length ≤ 4096
      · have h5 : ((4096 : Int) < (acc.length : Int)) = False := by simp; omega
        go_wp2_with (first | (go_at_call 41; refine (Tryz.Builder_Len _ _ _ _ hb).mono ?_; rintro e w' ⟨rfl, rfl⟩; rw [hq]) | (go_at_call 42; refine (Tryz.Builder_String_any _ _ _ _ hb hwr).mono ?_; rintro e w' ⟨rfl, hb2⟩))
        go_ret3
        refine ⟨?_, hbel.trans hb2⟩
        simp only [plainV, hp, h4, if_true]
        rfl
      · have h5 : ((4096 : Int) < (acc.length : Int)) = True := by simp; omega
        go_wp2_with (first | (go_at_call 41; refine (Tryz.Builder_Len _ _ _ _ hb).mono ?_; rintro e w' ⟨rfl, rfl⟩; rw [hq]) | (go_at_call 42; refine (Tryz.Builder_String_any _ _ _ _ hb hwr).mono ?_; rintro e w' ⟨rfl, hb2⟩))
        go_ret3
        refine ⟨?_, hbel⟩
        simp only [plainV, hp, h4, if_false]
        rfl
    case pos =>
      have hl : ((i : Int) < (s.length : Int)) = True := by simp; omega
      have hd : s.drop i = s[i] :: s.drop (i + 1) := List.drop_eq_getElem_cons h
      obtain ⟨m, rfl⟩ : ∃ m, gk = m + 1 := ⟨gk - 1, by omega⟩
      rw [hd] at hn
      have hbi : i < (⟨s.toArray⟩ : ByteArray).size := by simpa [ByteArray.size] using h
      by_cases h92 : s[i].toNat = 92
      · have e1 : ((((⟨s.toArray⟩ : ByteArray)[i]'hbi).toNat : Int) != 92) = false := by rw [bget]; simp [h92]
        have hes := escape_calls (s.drop (i + 1)) (by simp; omega) wr
        rw [← bext_end] at hes
        by_cases h0 : (escapeN (s.drop (i + 1))).2 = 0
        · have e2 : (((escapeN (s.drop (i + 1))).2 : Int) == 0) = true := by simp [h0]
          have hp : plainN s = .error i := by rw [hn]; simp only [plainFrom]; rw [if_pos h92, if_pos h0]
          go_wp2_with (go_at_call 88; refine hes.mono ?_; rintro e w' ⟨rfl, rfl⟩)
          go_ret3
          refine ⟨?_, hbel⟩
          simp only [plainV, hp]
          rfl
        · have e2 : (((escapeN (s.drop (i + 1))).2 : Int) == 0) = false := by simp; omega
          have hle := escape_le (s.drop (i + 1))
          rw [List.length_drop] at hle
          have hp : plainN s = plainFrom m (s.drop (i + 1 + (escapeN (s.drop (i + 1))).2)) (i + 1 + (escapeN (s.drop (i + 1))).2) (acc ++ [(escapeN (s.drop (i + 1))).1]) := by
            rw [hn]; simp only [plainFrom]; rw [if_pos h92, if_neg h0, List.drop_drop]
          generalize escapeN (s.drop (i + 1)) = ev at hes h0 e2 hle hp
          obtain ⟨x, n⟩ := ev
          simp only at hes h0 e2 hle hp
          have hw1 : IntKind.i64.wrap ((i : Int) + (n : Int)) = (i : Int) + (n : Int) := wrap_small _ (by omega) (by omega)
          go_wp2_with (first | (go_at_call 88; refine hes.mono ?_; rintro e w' ⟨rfl, rfl⟩) | (go_at_call 37; refine (writeByte_calls _ _ _ x _ hb (by omega) hwr).mono ?_; rintro e w' ⟨rfl, hb', hbel'⟩))
          go_roundg m
          case measure => omega
          case rel => exact ⟨i + 1 + n, acc ++ [x], by congr 1; omega, by omega, by omega, by simp; omega, hb', hbel.trans hbel', hp⟩
      · have e1 : ((((⟨s.toArray⟩ : ByteArray)[i]'hbi).toNat : Int) != 92) = true := by rw [bget]; simp; omega
        have hn2 : plainN s = plainFrom m (s.drop (i + 1)) (i + 1) (acc ++ [s[i]]) := by rw [hn]; simp only [plainFrom]; rw [if_neg h92]
        go_wp2_with (go_at_call 37; refine (writeByte_calls _ _ _ s[i] _ hb (by omega) hwr).mono ?_; rintro e w' ⟨rfl, hb', hbel'⟩)
        go_roundg m
        case measure => omega
        case rel => exact ⟨i + 1, acc ++ [s[i]], rfl, by omega, by omega, by simp; omega, hb', hbel.trans hbel', hn2⟩

end Go.Proofs.YtgdamcmfdhhheaaGreatDoor

/- num.May, num.Read, walked. -/
namespace Go.Proofs.YtgdamcmfdhhheaaGreatDoor
open Go.RowKit Bf

def truncN (x : Nat) : Nat := match FloatKind.f64.decode x with | .nan _ _ => x | d => FloatKind.f64.encode (d.integral .zero)

theorem run_trunc (x : Nat) (h : ∀ s t, FloatKind.f64.decode x ≠ .nan s t) (w : World) : (callFunc 119 #[.float .f64 x]).run Tryz.prog w = .ok (.value (.float .f64 (truncN x))) w := by
  rw [run_callFunc_extern Tryz.func119 (by kernel_rfl) (by kernel_rfl) (by kernel_rfl) (e := Extern.MathFloor.toIntegral "math.archTrunc" .zero) (by kernel_rfl)]
  have h2 : (Extern.MathFloor.toIntegral "math.archTrunc" .zero #[.float .f64 x]).run Tryz.prog w = .ok (.float .f64 (truncN x)) w := by
    change (match FloatKind.f64.decode x with
      | .nan s t => (if FloatKind.f64.format.quiet t = t then pure (.float .f64 x) else do
          let kept ← choose (.extern "math.Floor,Ceil,Trunc,RoundToEven.signallingNaN kept" 2)
          pure (.float .f64 (if kept == 1 then x else FloatKind.f64.encode (.nan s (FloatKind.f64.format.quiet t)))) : Sem Value)
      | d => pure (.float .f64 (FloatKind.f64.encode (d.integral .zero)))).run Tryz.prog w = _
    unfold truncN
    cases hd : FloatKind.f64.decode x with
    | nan s t => exact absurd hd (h s t)
    | _ => rfl
  rw [h2]; rfl
@[go_sem] theorem run_bits (x : Nat) (w : World) : (callFunc 121 #[.float .f64 x]).run Tryz.prog w = .ok (.value (.int .u64 (x : Nat))) w := by
  rw [run_callFunc_extern Tryz.func121 (by kernel_rfl) (by kernel_rfl) (by kernel_rfl) (e := Extern.MathFloatBits.float64bits) (by kernel_rfl)]; rfl
@[go_sem] theorem run_frombits (x : Int) (w : World) : (callFunc 118 #[.int .u64 x]).run Tryz.prog w = .ok (.value (.float .f64 x.toNat)) w := by
  rw [run_callFunc_extern Tryz.func118 (by kernel_rfl) (by kernel_rfl) (by kernel_rfl) (e := Extern.MathFloatBits.float64frombits) (by kernel_rfl)]; rfl

theorem no_nan {x : Nat} (h : FloatKind.f64.format.order x x = some .eq) : ∀ s t, FloatKind.f64.decode x ≠ .nan s t := by
  intro s t hd
  unfold Ieee.Format.order at h
  have hd' : FloatKind.f64.format.read x = .nan s t := hd
  rw [hd'] at h
  simp [Ieee.Datum.order] at h

def absN (x : Nat) : Nat := (bits BinOp.andNot IntKind.u64 (x : Int) 9223372036854775808).toNat
def mayN (x : Nat) : Bool :=
  if FloatKind.f64.format.order x x = some .eq then
    if FloatKind.f64.format.order (truncN x) x = some .eq then
      if FloatKind.f64.format.order (absN x) 4845873199050653695 = some .lt ∨ FloatKind.f64.format.order (absN x) 4845873199050653695 = some .eq then
        if FloatKind.f64.format.order x 0 = some .eq then !decide (wrap64 (x : Int) < 0) else true
      else false
    else false
  else true

set_option maxRecDepth 100000 in
set_option maxHeartbeats 2000000 in
theorem may_calls (x : Nat) (w : World) : Calls Tryz.prog 51 #[.float .f64 x] w fun e w' => e = .returned (.bool (mayN x)) ∧ w' = w := by
  by_cases h : FloatKind.f64.format.order x x = some .eq
  · have ht := fun w => run_trunc x (no_nan h) w
    have h2 : (FloatKind.f64.format.order x x != some .eq) = false := by rw [h]; rfl
    have e0 : mayN x = (if FloatKind.f64.format.order (truncN x) x = some .eq then
      if FloatKind.f64.format.order (bits BinOp.andNot IntKind.u64 (x : Int) 9223372036854775808).toNat 4845873199050653695 = some .lt ∨ FloatKind.f64.format.order (bits BinOp.andNot IntKind.u64 (x : Int) 9223372036854775808).toNat 4845873199050653695 = some .eq then
        if FloatKind.f64.format.order x 0 = some .eq then !decide (wrap64 (x : Int) < 0) else true
      else false
    else false) := by unfold mayN; rw [if_pos h]; rfl
    rw [e0]
    go_enter Tryz.func51, Tryz.ntmps51
    go_wp2
    all_goals go_ret
    all_goals (refine ⟨?_, rfl⟩; show Ending.returned (.bool _) = _; congr 2)
    all_goals simp_all
  · have h2 : (FloatKind.f64.format.order x x != some .eq) = true := by simpa using h
    have e0 : mayN x = true := by unfold mayN; rw [if_neg h]
    rw [e0]
    go_enter Tryz.func51, Tryz.ntmps51
    go_wp2_with fail
    go_ret
    exact ⟨rfl, rfl⟩

end Go.Proofs.YtgdamcmfdhhheaaGreatDoor

/- num.Read at digits, walked. -/
namespace Go.Proofs.YtgdamcmfdhhheaaGreatDoor
open Go.RowKit Bf

theorem trim_digits (s : List UInt8) (h : s.all isDigit = true) : Lib.trimS s [9, 10, 13, 32] = s := by
  have hl : ∀ l : List UInt8, l.all isDigit = true → Lib.trimLeftS l [9, 10, 13, 32] = l := by
    intro l hl
    cases l with
    | nil => rfl
    | cons b t =>
      have hb : isDigit b = true := by simp at hl; exact hl.1
      have hn : ([9, 10, 13, 32] : List UInt8).contains b = false := by
        have := (digit_iff b).1 hb
        simp
        refine ⟨?_, ?_, ?_, ?_⟩ <;> (rintro rfl; simp at this)
      unfold Lib.trimLeftS
      exact List.dropWhile_cons_of_neg (by rw [hn]; decide)
  have hr : Lib.trimRightS s [9, 10, 13, 32] = s := by
    have h2 : s.reverse.all isDigit = true := by simpa using h
    have := hl s.reverse h2
    unfold Lib.trimLeftS at this
    unfold Lib.trimRightS
    rw [this, List.reverse_reverse]
  unfold Lib.trimS
  rw [hr, hl s h]

def stepN (p : Nat × Bool) (c : UInt8) : Nat × Bool := if 9007199254740991 < p.1 * 10 + (c.toNat - 48) then (9007199254740991, true) else (p.1 * 10 + (c.toNat - 48), p.2)
def foldN (s : List UInt8) : Nat × Bool := s.foldl stepN (0, false)
theorem stepN_le (p : Nat × Bool) (c : UInt8) : (stepN p c).1 ≤ 9007199254740991 := by
  unfold stepN; split <;> simp; omega

set_option maxRecDepth 100000 in
set_option maxHeartbeats 2000000 in
theorem read_calls (s : List UInt8) (h : s.all isDigit = true) (h1 : 1 ≤ s.length) (h2 : s.length ≤ 65536) (w : World) :
    Calls Tryz.prog 50 #[.string ⟨s.toArray⟩] w fun e w' => e = .returned (.tuple (if (foldN s).2 then #[.float .f64 0, .int .i64 10] else #[.float .f64 (floatOfInt .f64 ((foldN s).1 : Nat)), .int .i64 0])) ∧ Below w.heap.size w w' := by
  have hsz : (⟨s.toArray⟩ : ByteArray).size = s.length := by simp [ByteArray.size]
  have htr := Any.strings_Trim_laid Tryz.lays160 (by kernel_rfl) ⟨s.toArray⟩ ⟨#[9, 10, 13, 32]⟩ w (by omega) (by decide) (ascii_of_all (by decide))
  rw [show (⟨s.toArray⟩ : ByteArray).data.toList = s from rfl, show (⟨#[9, 10, 13, 32]⟩ : ByteArray).data.toList = [9, 10, 13, 32] from rfl, trim_digits s h] at htr
  have he : s.isEmpty = false := by cases s <;> simp at h1 ⊢
  have hi0 : 0 < (⟨s.toArray⟩ : ByteArray).size := by omega
  have hd0 : isDigit s[0] = true := List.all_eq_true.1 h _ (List.getElem_mem _)
  have hr0 := (digit_iff _).1 hd0
  have e45 : ((((⟨s.toArray⟩ : ByteArray)[0]'hi0).toNat : Int) == 45) = false := by rw [bget]; simp; omega
  have e43 : ((((⟨s.toArray⟩ : ByteArray)[0]'hi0).toNat : Int) == 43) = false := by rw [bget]; simp; omega
  go_enter Tryz.func50, Tryz.ntmps50
  go_wp2_with (go_at_call 49; refine htr.mono ?_; rintro e w' ⟨rfl, hb⟩)
  have hwz := hb.size
  go_loopg [5, 6, 30] s.length (fun m u v x wr => ∃ (i : Nat) (p : Nat × Bool), .int .i64 (p.1 : Nat) = u ∧ .bool p.2 = v ∧ .int .i64 (i : Nat) = x ∧ i + m = s.length ∧ wr = w' ∧ p.1 ≤ 9007199254740991 ∧ foldN s = (s.drop i).foldl stepN p)
  case atStart => exact ⟨0, (0, false), rfl, rfl, rfl, by simp, rfl, by simp, rfl⟩
  case round =>
    obtain ⟨i, ⟨a, g⟩, rfl, rfl, rfl, hm, rfl, ha, hn⟩ := hrel
    simp only at ha
    by_cases hi : i < s.length
    case neg =>
      have hl : ((i : Int) < (s.length : Int)) = False := by simp; omega
      rw [List.drop_eq_nil_of_le (by omega)] at hn
      have hn' : foldN s = (a, g) := hn
      cases g with
      | true =>
        go_wp2_with fail
        all_goals go_ret2
        all_goals exact ⟨rfl, hb⟩
      | false =>
        go_wp2_with fail
        all_goals go_ret2
        all_goals exact ⟨rfl, hb⟩
    case pos =>
      have hl : ((i : Int) < (s.length : Int)) = True := by simp; omega
      have hd : s.drop i = s[i] :: s.drop (i + 1) := List.drop_eq_getElem_cons hi
      have hbi : i < (⟨s.toArray⟩ : ByteArray).size := by omega
      have hdi : isDigit s[i] = true := List.all_eq_true.1 h _ (List.getElem_mem _)
      have hri := (digit_iff _).1 hdi
      obtain ⟨m, rfl⟩ : ∃ m, gk = m + 1 := ⟨gk - 1, by omega⟩
      rw [hd, List.foldl_cons] at hn
      have q1 : ((((⟨s.toArray⟩ : ByteArray)[i]'hbi).toNat : Int) < 48) = False := by rw [bget]; simp; omega
      have q2 : ((57 : Int) < (((⟨s.toArray⟩ : ByteArray)[i]'hbi).toNat : Int)) = False := by rw [bget]; simp; omega
      have q3 : (((((⟨s.toArray⟩ : ByteArray)[i]'hbi).toNat : Int) - 48)) = ((s[i].toNat - 48 : Nat) : Int) := by rw [bget]; omega
      have hx : s[i].toNat - 48 ≤ 9 := by omega
      have hs1 : 9007199254740991 < a * 10 + (s[i].toNat - 48) → stepN (a, g) s[i] = (9007199254740991, true) := fun e => by unfold stepN; simp only; rw [if_pos e]
      have hs2 : ¬ 9007199254740991 < a * 10 + (s[i].toNat - 48) → stepN (a, g) s[i] = (a * 10 + (s[i].toNat - 48), g) := fun e => by unfold stepN; simp only; rw [if_neg e]
      generalize stepN (a, g) s[i] = st at hn hs1 hs2
      generalize s[i].toNat - 48 = x at q3 hx hs1 hs2
      go_wp2_with fail
      · have e := hs1 (by omega)
        subst e
        go_roundg m
        case measure => omega
        case rel => exact ⟨i + 1, (9007199254740991, true), rfl, rfl, rfl, by omega, rfl, by simp, hn⟩
      · have e := hs2 (by omega)
        subst e
        go_roundg m
        case measure => omega
        case rel => exact ⟨i + 1, (a * 10 + x, g), rfl, rfl, rfl, by omega, rfl, by simp only; omega, hn⟩

theorem drop_digit (cs : List UInt8) (hcs : ∀ b, cs.contains b = isDigit b) (d : List UInt8) : (Lib.trimS d cs = []) ↔ d.all isDigit = true := by
  have hl : ∀ l : List UInt8, Lib.trimLeftS l cs = [] ↔ l.all isDigit = true := by
    intro l
    induction l with
    | nil => simp [Lib.trimLeftS]
    | cons b t ih =>
      unfold Lib.trimLeftS at ih ⊢
      by_cases hb : isDigit b = true
      · rw [List.dropWhile_cons_of_pos (by rw [hcs]; exact hb), ih]; simp [hb]
      · rw [List.dropWhile_cons_of_neg (by rw [hcs]; exact hb)]; simp [hb]
  have hr : ∀ l : List UInt8, Lib.trimRightS l cs = (Lib.trimLeftS l.reverse cs).reverse := fun l => rfl
  unfold Lib.trimS
  rw [hl, hr]
  constructor
  · intro h
    rw [List.all_reverse] at h
    by_cases e : Lib.trimLeftS d.reverse cs = []
    · have := (hl _).1 e; simpa using this
    · exfalso
      obtain ⟨x, t, hx⟩ := List.exists_cons_of_ne_nil e
      have h1 : isDigit x = true := by rw [hx] at h; simp at h; exact h.1
      have h2 : ∀ l : List UInt8, ∀ x t, l.dropWhile (fun b => cs.contains b) = x :: t → cs.contains x = false := by
        intro l
        induction l with
        | nil => intro x t h; simp at h
        | cons b l ih =>
          intro x t h
          by_cases hb : cs.contains b = true
          · rw [List.dropWhile_cons_of_pos hb] at h; exact ih x t h
          · rw [List.dropWhile_cons_of_neg hb] at h; cases h; simpa using hb
      have := h2 d.reverse x t hx
      rw [hcs, h1] at this
      cases this
  · intro h
    have e : Lib.trimLeftS d.reverse cs = [] := (hl _).2 (by simpa using h)
    rw [e]; rfl

/-- A text's first token and its bytes; or the place that is wrong. -/
def signFrom : Nat → List UInt8 → Nat
  | 0, _ => 0
  | n + 1, s => if sign (s.take (n + 1)) then n + 1 else signFrom n s
def signLen (s : List UInt8) : Nat := signFrom (min 3 s.length) s

def tokN (s : List UInt8) : Except Nat (Tok × Nat) :=
  if bKind (s.headD 0) = 1 then
    if 4096 < nameLen s then .error 0 else .ok (⟨if word (s.take (nameLen s)) then 2 else 1, 0, s.take (nameLen s), 0⟩, nameLen s)
  else if bKind (s.headD 0) = 2 then
    if (s.take (nameLen s)).all isDigit = true ∧ ¬ ((s.headD 0).toNat = 48 ∧ 1 < nameLen s) ∧ nameLen s ≤ 16 then
      if (foldN (s.take (nameLen s))).2 = true then .error 0
      else if mayN (floatOfInt .f64 ((foldN (s.take (nameLen s))).1 : Nat)) then .ok (⟨3, 0, [], floatOfInt .f64 ((foldN (s.take (nameLen s))).1 : Nat)⟩, nameLen s)
      else .error 0
    else .error 0
  else if bKind (s.headD 0) = 3 then
    if closedN s = 0 then .error 0
    else match plainN ((s.take (closedN s)).drop 1) with
      | .error i => .error (1 + i)
      | .ok t => if t.length ≤ 4096 then .ok (⟨4, 0, t, 0⟩, closedN s + 1) else .error 0
  else if signLen s = 0 then .error 0 else .ok (⟨5, 0, s.take (signLen s), 0⟩, signLen s)

/-- What token answers. -/
def PostTok (w : World) (r : Except Nat (Tok × Nat)) (e : Ending) (w' : World) : Prop :=
  Below w.heap.size w w' ∧
  match r with
  | .ok (t, n) => e = .returned (.tuple #[.agg (tokVals t).toArray, .int .i64 (n : Nat), .bool true])
  | .error n => ∃ t0 : Tok, e = .returned (.tuple #[.agg (tokVals t0).toArray, .int .i64 (n : Nat), .bool false])

end Go.Proofs.YtgdamcmfdhhheaaGreatDoor

/- lex.token, walked. -/
namespace Go.Proofs.YtgdamcmfdhhheaaGreatDoor
open Go.RowKit Bf

theorem Ground.below {w w' : World} {n : Nat} (h : Ground w) (hb : Below n w w') (hn : 0 < n) : Ground w' := by
  obtain ⟨m, hm⟩ := h
  exact ⟨m, (World.cell?_of_block (a := ⟨0, 0, none⟩) (hb.block 0 hn)).trans hm⟩

theorem Ground.pos {w : World} (h : Ground w) : 0 < w.heap.size := by
  obtain ⟨m, hm⟩ := h
  exact World.block_lt_of_cell? w ⟨0, 0, none⟩ hm

def zeroTok : Obj := .cells #[.int .u8 0, .int .i64 0, .string ⟨#[]⟩, .float .f64 0] 59

theorem nameLen_le (s : List UInt8) : nameLen s ≤ s.length := by unfold nameLen; exact (List.takeWhile_sublist _).length_le

set_option maxRecDepth 100000 in
set_option maxHeartbeats 2000000 in
theorem token_name (s : List UInt8) (h1 : 1 ≤ s.length) (h2 : s.length ≤ 65536) (w : World) (hg : Ground w) (b : UInt8) (hb : s.headD 0 = b) (hk : bKind b = 1) :
    Calls Tryz.prog 29 #[.string ⟨s.toArray⟩] w (PostTok w (tokN s)) := by
  have hi0 : 0 < (⟨s.toArray⟩ : ByteArray).size := by simp [ByteArray.size]; omega
  have hh : ∀ h, (⟨s.toArray⟩ : ByteArray)[0]'h = b := fun _ => by cases s with | nil => simp at h1 | cons c t => exact hb
  have hnl := nameLen_le s
  have hw : ∀ o, Calls Tryz.prog 48 #[.string ((⟨s.toArray⟩ : ByteArray).extract 0 (nameLen s))] (w.alloc o) fun e w' => e = .returned (.bool (word (s.take (nameLen s)))) ∧ w' = w.alloc o := fun o => by
    rw [bext_zero]
    exact word_calls _ (by simp; omega) _ (hg.below ((Below.refl _ _).alloc (Nat.le_refl _) o) hg.pos)
  have bl : ∀ o, Below w.heap.size w (w.alloc o) := fun o => (Below.refl _ _).alloc (Nat.le_refl _) o
  by_cases h4 : 4096 < nameLen s
  · have e4 : ((4096 : Int) < (nameLen s : Int)) = True := by simp; omega
    have hr : tokN s = .error 0 := by unfold tokN; rw [hb, if_pos hk, if_pos h4]
    rw [hr]
    cases hwd : word (s.take (nameLen s))
    all_goals rw [hwd] at hw
    all_goals go_enter Tryz.func29, Tryz.ntmps29
    all_goals go_wp2_with (first | (go_at_call 46; refine (kind_calls _ _).mono ?_; rintro e w' ⟨rfl, rfl⟩; simp only [hh, hk]) | (go_at_call 47; refine (run_calls s h2 _).mono ?_; rintro e w' ⟨rfl, rfl⟩) | (go_at_call 48; refine (hw _).mono ?_; rintro e w' ⟨rfl, rfl⟩))
    all_goals simp [bodyPost, results, Tryz.results29, go_sem]
    all_goals refine ⟨bl _, ?_⟩
    · exact ⟨⟨1, 0, s.take (nameLen s), 0⟩, by simp [tokVals, bext_zero]⟩
    · exact ⟨⟨2, 0, s.take (nameLen s), 0⟩, by simp [tokVals, bext_zero]⟩
  · have e4 : ((4096 : Int) < (nameLen s : Int)) = False := by simp; omega
    have hr : tokN s = .ok (⟨if word (s.take (nameLen s)) then 2 else 1, 0, s.take (nameLen s), 0⟩, nameLen s) := by unfold tokN; rw [hb, if_pos hk, if_neg h4]
    rw [hr]
    cases hwd : word (s.take (nameLen s))
    all_goals rw [hwd] at hw
    all_goals go_enter Tryz.func29, Tryz.ntmps29
    all_goals go_wp2_with (first | (go_at_call 46; refine (kind_calls _ _).mono ?_; rintro e w' ⟨rfl, rfl⟩; simp only [hh, hk]) | (go_at_call 47; refine (run_calls s h2 _).mono ?_; rintro e w' ⟨rfl, rfl⟩) | (go_at_call 48; refine (hw _).mono ?_; rintro e w' ⟨rfl, rfl⟩))
    all_goals simp [bodyPost, results, Tryz.results29, go_sem]
    all_goals refine ⟨bl _, ?_⟩
    all_goals simp [tokVals, bext_zero]

end Go.Proofs.YtgdamcmfdhhheaaGreatDoor

/- lex.token at a sign, walked. -/
namespace Go.Proofs.YtgdamcmfdhhheaaGreatDoor
open Go.RowKit Bf

set_option maxRecDepth 100000 in
set_option maxHeartbeats 400000 in
theorem token_sign (s : List UInt8) (h1 : 1 ≤ s.length) (h2 : s.length ≤ 65536) (w : World) (hg : Ground w) (b : UInt8) (hb : s.headD 0 = b) (hk : bKind b = 0) :
    Calls Tryz.prog 29 #[.string ⟨s.toArray⟩] w (PostTok w (tokN s)) := by
  have hi0 : 0 < (⟨s.toArray⟩ : ByteArray).size := by simp [ByteArray.size]; omega
  have hh : ∀ h, (⟨s.toArray⟩ : ByteArray)[0]'h = b := fun _ => by cases s with | nil => simp at h1 | cons c t => exact hb
  have hw : ∀ o n, Calls Tryz.prog 54 #[.string ((⟨s.toArray⟩ : ByteArray).extract 0 n)] (w.alloc o) fun e w' => e = .returned (.bool (sign (s.take n))) ∧ w' = w.alloc o := fun o n => by
    rw [bext_zero]
    exact sign_calls _ (by simp; omega) _ (hg.below ((Below.refl _ _).alloc (Nat.le_refl _) o) hg.pos)
  have bl : ∀ o, Below w.heap.size w (w.alloc o) := fun o => (Below.refl _ _).alloc (Nat.le_refl _) o
  have hr : tokN s = if signLen s = 0 then .error 0 else .ok (⟨5, 0, s.take (signLen s), 0⟩, signLen s) := by
    unfold tokN; rw [hb, if_neg (by omega), if_neg (by omega), if_neg (by omega)]
  generalize tokN s = r at hr ⊢
  have hmin : (min (3 : Int) (s.length : Int)) = ((min 3 s.length : Nat) : Int) := by omega
  have hk0 : ((bKind b : Nat) : Int) = 0 := by rw [hk]; rfl
  have hkc : ∀ w, Calls Tryz.prog 46 #[.int .u8 (b.toNat : Nat)] w fun e w' => e = .returned (.int .i64 0) ∧ w' = w := fun w => by
    have := kind_calls b w
    rw [hk0] at this
    exact this
  go_enter Tryz.func29, Tryz.ntmps29
  go_wp2_with (first | (go_at_call 46; refine (hkc _).mono ?_; rintro e w' ⟨rfl, rfl⟩))
  go_loopg [3] (min 3 s.length) (fun m u wr => .int .i64 (m : Nat) = u ∧ m ≤ s.length ∧ wr = w.alloc (.cells #[.int .u8 0, .int .i64 0, .string ⟨#[]⟩, .float .f64 0] 59) ∧ signLen s = signFrom m s)
  case atStart => exact ⟨rfl, by omega, rfl, rfl⟩
  case round =>
    obtain ⟨rfl, hm, rfl, hn⟩ := hrel
    cases gk with
    | zero =>
      have hr0 : r = .error 0 := by rw [hr, if_pos (show signLen s = 0 from hn)]
      clear hr
      subst hr0
      go_wp2_with fail
      simp [bodyPost, results, Tryz.results29, go_sem]
      exact ⟨bl _, ⟨5, 0, [], 0⟩, by simp [tokVals, bext_zero]; rfl⟩
    | succ m =>
      have hp : ((0 : Int) < ((m + 1 : Nat) : Int)) = True := by simp <;> omega
      have hw1 := hw (.cells #[.int .u8 0, .int .i64 0, .string ⟨#[]⟩, .float .f64 0] 59) (m + 1)
      cases hsg : sign (s.take (m + 1))
      · rw [hsg] at hw1
        go_wp2_with (first | (go_at_call 54; refine hw1.mono ?_; rintro e w' ⟨rfl, rfl⟩))
        go_roundg m
        case measure => omega
        case rel => exact ⟨rfl, by omega, rfl, by rw [hn]; simp [signFrom, hsg]⟩
      · rw [hsg] at hw1
        have hs1 : signLen s = m + 1 := by rw [hn]; simp [signFrom, hsg]
        have hr0 : r = .ok (⟨5, 0, s.take (m + 1), 0⟩, m + 1) := by rw [hr, hs1]; rfl
        clear hr
        subst hr0
        go_wp2_with (first | (go_at_call 54; refine hw1.mono ?_; rintro e w' ⟨rfl, rfl⟩))
        simp [bodyPost, results, Tryz.results29, go_sem]
        refine ⟨bl _, ?_⟩
        simp [tokVals, bext_zero]

end Go.Proofs.YtgdamcmfdhhheaaGreatDoor
