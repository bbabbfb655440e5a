/- ParseBrackets: walked. -/
import Derived.Test.YtgdamcmfdhhheaaGreatDoorMT1
set_option linter.all false

namespace Go.Proofs.YtgdamcmfdhhheaaGreatDoor
open Go.RowKit Bf

def plainT (s : List UInt8) : List UInt8 := [120, 32, 61, 32] ++ s ++ [10, 59]
def roundT (s : List UInt8) : List UInt8 := [120, 32, 61, 32, 40] ++ s ++ [10, 41, 59]

def BracketsIs (s : List UInt8) : Prop := ∀ a b, parseR (plainT s) = .ok a → parseR (roundT s) = .ok b → sameL ((flat 0 a).map toI) ((flat 0 b).map toI) = true

set_option maxRecDepth 100000 in
set_option maxHeartbeats 4000000 in
theorem brackets_long (s : List UInt8) (hs : 3000 < s.length) (w : World) (hg : Ground2 w) :
    Calls Tryz.prog 5 #[.string ⟨s.toArray⟩] w fun e w' => e = .returned (.bool true) ∧ Below w.heap.size w w' := by
  have HA := hidden (alive_calls w hg)
  have hl : ((3000 : Int) < (s.length : Int)) = True := by simp; omega
  clear hs hg
  go_enter Tryz.func5, Tryz.ntmps5
  go_wp2_with fail
  refine HA.out.mono ?_
  rintro e w1 ⟨rfl, hb1⟩
  go_wp2_with fail
  all_goals go_ret
  all_goals exact ⟨rfl, hb1⟩

set_option maxRecDepth 100000 in
set_option maxHeartbeats 4000000 in
theorem brackets_calls (s : List UInt8) (hs : s.length ≤ 3000) (hN : BracketsIs s) (w : World) (hg : Ground2 w) :
    Calls Tryz.prog 5 #[.string ⟨s.toArray⟩] w fun e w' => e = .returned (.bool true) ∧ Below w.heap.size w w' := by
  have HG := hidden hg
  have HA := hidden (alive_calls w hg)
  have HN := hidden hN
  clear hN hg
  have hl : ((3000 : Int) < (s.length : Int)) = False := by simp; omega
  have l1 : (plainT s).length ≤ 65536 := by simp [plainT]; omega
  have l2 : (roundT s).length ≤ 65536 := by simp [roundT]; omega
  have HP1 := hidden (show ∀ w', Below w.heap.size w w' → _ from fun w' hb => parse_see (plainT s) l1 w' (HG.out.below hb))
  have HP2 := hidden (show ∀ w', Below w.heap.size w w' → _ from fun w' hb => parse_see (roundT s) l2 w' (HG.out.below hb))
  clear l1 l2
  obtain ⟨s2, E1, k1, F1⟩ : ∃ s2 : List UInt8, (⟨#[120, 32, 61, 32]⟩ : ByteArray) ++ ⟨s.toArray⟩ = ⟨s2.toArray⟩ ∧ s2.length ≤ 3004 ∧ s2 = [120, 32, 61, 32] ++ s :=
    ⟨[120, 32, 61, 32] ++ s, by apply ByteArray.ext; simp, by simp; omega, rfl⟩
  obtain ⟨s3, E3, k3, F3⟩ : ∃ s2 : List UInt8, (⟨#[120, 32, 61, 32, 40]⟩ : ByteArray) ++ ⟨s.toArray⟩ = ⟨s2.toArray⟩ ∧ s2.length ≤ 3005 ∧ s2 = [120, 32, 61, 32, 40] ++ s :=
    ⟨[120, 32, 61, 32, 40] ++ s, by apply ByteArray.ext; simp, by simp; omega, rfl⟩
  have E2 : (⟨s2.toArray⟩ : ByteArray) ++ ⟨#[10, 59]⟩ = ⟨(plainT s).toArray⟩ := by
    apply ByteArray.ext
    simp [plainT, F1]
  have E4 : (⟨s3.toArray⟩ : ByteArray) ++ ⟨#[10, 41, 59]⟩ = ⟨(roundT s).toArray⟩ := by
    apply ByteArray.ext
    simp [roundT, F3]
  clear F1 F3
  have e1 : (9223372036854775807 < 4 + s.length) = False := by simp; omega
  have e2 : (9223372036854775807 < s2.length + 2) = False := by simp; omega
  have e3 : (9223372036854775807 < 5 + s.length) = False := by simp; omega
  have e4 : (9223372036854775807 < s3.length + 3) = False := by simp; omega
  have HE := hidden (And.intro E3 <| And.intro E4 <| And.intro e3 e4)
  clear E3 E4 e3 e4 k1 k3 hs
  go_enter Tryz.func5, Tryz.ntmps5
  go_wp2_with fail
  refine HA.out.mono ?_
  clear HA
  rintro e w1 ⟨rfl, hb1⟩
  go_wp2_with fail
  refine (HP1.out _ hb1).mono ?_
  rintro e w2 ⟨hb2, hpost⟩
  have hb2' := hb1.trans (hb2.mono hb1.size)
  clear hb1 hb2 HP1 E1 E2 e1 e2
  obtain ⟨E3, E4, e3, e4⟩ := HE.out
  have hN := HN.out
  unfold BracketsIs at hN
  generalize parseR (plainT s) = r1 at hpost hN
  generalize parseR (roundT s) = r2 at HP2 hN
  clear HN
  have HN := hidden hN
  clear hN
  cases r1 with
  | error p =>
    obtain ⟨p, n⟩ := p
    obtain ⟨hn, rfl⟩ := hpost
    have hne : ((n : Int) != 0) = true := by simp; omega
    clear hn
    go_wp2_with fail
    refine (HP2.out _ (hb2'.alloc hb2'.size _)).mono ?_
    rintro e w3 ⟨hb3, hpost⟩
    have hb3' := (hb2'.alloc hb2'.size (.cells #[.slice none 0 0] 25)).trans (hb3.mono (hb2'.alloc hb2'.size (.cells #[.slice none 0 0] 25)).size)
    clear hb3
    cases r2 with
    | error p2 =>
      obtain ⟨p2, n2⟩ := p2
      obtain ⟨_, rfl⟩ := hpost
      go_wp2_with fail
      all_goals go_ret
      all_goals exact ⟨rfl, hb3'.alloc hb3'.size _⟩
    | ok t2 =>
      obtain ⟨a, c, rfl, hsee⟩ := hpost
      clear hsee
      go_wp2_with fail
      all_goals go_ret
      all_goals exact ⟨rfl, hb3'.alloc hb3'.size _⟩
  | ok t1 =>
    obtain ⟨a, c, rfl, hsee⟩ := hpost
    have HS1 := hidden hsee
    clear hsee
    have hbz : Below w2.heap.size w2 (w2.alloc (.cells #[.slice (some a) t1.size c] 25)) := (Below.refl _ _).alloc (Nat.le_refl _) _
    have HE1 := hidden (heap_alloc_new w2 (.cells #[.slice (some a) t1.size c] 25))
    have hb2x := hb2'.trans (hbz.mono hb2'.size)
    go_wp2_with fail
    refine (HP2.out _ hb2x).mono ?_
    rintro e w3 ⟨hb3, hpost⟩
    have hE3 := (hb3.block w2.heap.size (by simp)).trans HE1.out
    have hb23 : Below w2.heap.size w2 w3 := hbz.trans (hb3.mono hbz.size)
    have hb3' := hb2'.trans (hb23.mono hb2'.size)
    have hs3 : w2.heap.size < w3.heap.size := (Array.getElem?_eq_some_iff.1 hE3).1
    have HE3 := hidden hE3
    have HS3 := hidden (HS1.out.below hb23)
    clear hb3 hE3 hbz HE1 HS1 hb2x
    cases r2 with
    | error p2 =>
      obtain ⟨p2, n2⟩ := p2
      obtain ⟨hn, rfl⟩ := hpost
      have hne : ((n2 : Int) != 0) = true := by simp; omega
      clear hn
      go_wp2_with fail
      all_goals go_ret
      all_goals exact ⟨rfl, hb3'.alloc hb3'.size _⟩
    | ok t2 =>
      obtain ⟨a2, c2, rfl, hsee⟩ := hpost
      have hsm := same_calls (.slice (some a) t1.size c) (.slice (some a2) t2.size c2) ((flat 0 t1).map toI) ((flat 0 t2).map toI) (w3.alloc (.cells #[.slice (some a2) t2.size c2] 25))
        (HS3.out.below ((Below.refl _ _).alloc (Nat.le_refl _) _)) (hsee.below ((Below.refl _ _).alloc (Nat.le_refl _) _))
      rw [HN.out t1 t2 rfl rfl] at hsm
      have HSM := hidden hsm
      have hb4 := hb3'.alloc hb3'.size (.cells #[.slice (some a2) t2.size c2] 25)
      have hc1 : w3.cell? ⟨w2.heap.size, 0, none⟩ = some (.slice (some a) t1.size c) := by simp [World.cell?, HE3.out]
      clear hsm hsee
      go_wp2_with fail
      refine HSM.out.mono ?_
      rintro e w4 ⟨rfl, hb5⟩
      have hb6 := hb4.trans (hb5.mono hb4.size)
      go_wp2_with fail
      all_goals go_ret
      all_goals exact ⟨rfl, hb6⟩

end Go.Proofs.YtgdamcmfdhhheaaGreatDoor
