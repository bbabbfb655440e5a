/- ParseNested: walked. -/
import Derived.Test.YtgdamcmfdhhheaaGreatDoorMT1
set_option linter.all false

namespace Go.Proofs.YtgdamcmfdhhheaaGreatDoor
open Go.RowKit Bf

def bracesT (k : Nat) : List UInt8 := repN k [123] ++ repN k [125]
def bracketsT (k : Nat) : List UInt8 := repN k [40] ++ [97] ++ repN k [41] ++ [59]

/-- What the two parses must be. -/
structure NestedIs (k : Nat) : Prop where
  low : k ≤ 200 → ∃ t, parseR (bracesT k) = .ok t ∧ t.size = k + 1
  high : 200 < k → parseR (bracesT k) = .error (200, 6)
  low2 : k ≤ 198 → ∃ t, parseR (bracketsT k) = .ok t ∧ t.size = 3
  high2 : 198 < k → parseR (bracketsT k) = .error (199, 6)

theorem repN_length (s : List UInt8) : ∀ k, (repN k s).length = k * s.length
  | 0 => by simp [repN]
  | k + 1 => by simp [repN, repN_length s k, Nat.succ_mul]

set_option maxRecDepth 100000 in
set_option maxHeartbeats 4000000 in
theorem nested_calls (n : Nat) (hn : n < 65536) (hN : NestedIs (n % 401)) (w : World) (hg : Ground2 w) :
    Calls Tryz.prog 4 #[.int .u16 n] w fun e w' => e = .returned (.bool true) ∧ Below w.heap.size w w' := by
  have HG := hidden hg
  have HA := hidden (alive_calls w hg)
  have HNN := hidden hN
  clear hg hN
  have hk1 : (n : Int) % 401 = ((n % 401 : Nat) : Int) := by omega
  generalize hk : n % 401 = k at *
  have hk4 : k ≤ 400 := by omega
  have L1 : (repN k [123]).length = k := by rw [repN_length]; simp
  have L2 : (repN k [125]).length = k := by rw [repN_length]; simp
  have L3 : (repN k [40]).length = k := by rw [repN_length]; simp
  have L4 : (repN k [41]).length = k := by rw [repN_length]; simp
  have HL := hidden (And.intro L1 <| And.intro L2 <| And.intro L3 L4)
  have E1 : (⟨(repN k [123]).toArray⟩ : ByteArray) ++ ⟨(repN k [125]).toArray⟩ = ⟨(bracesT k).toArray⟩ := by
    apply ByteArray.ext
    simp [bracesT]
  have M1 : ∀ w' : World, Calls Tryz.prog 10 #[.string ⟨#[123]⟩, .int .i64 k] w' (fun e w'' => e = .returned (.string ⟨(repN k [123]).toArray⟩) ∧ Below w'.heap.size w' w'') := fun w' => many_calls [123] k (by decide) (by omega) w'
  have M2 : ∀ w' : World, Calls Tryz.prog 10 #[.string ⟨#[125]⟩, .int .i64 k] w' (fun e w'' => e = .returned (.string ⟨(repN k [125]).toArray⟩) ∧ Below w'.heap.size w' w'') := fun w' => many_calls [125] k (by decide) (by omega) w'
  have M3 : ∀ w' : World, Calls Tryz.prog 10 #[.string ⟨#[40]⟩, .int .i64 k] w' (fun e w'' => e = .returned (.string ⟨(repN k [40]).toArray⟩) ∧ Below w'.heap.size w' w'') := fun w' => many_calls [40] k (by decide) (by omega) w'
  have M4 : ∀ w' : World, Calls Tryz.prog 10 #[.string ⟨#[41]⟩, .int .i64 k] w' (fun e w'' => e = .returned (.string ⟨(repN k [41]).toArray⟩) ∧ Below w'.heap.size w' w'') := fun w' => many_calls [41] k (by decide) (by omega) w'
  have HM := hidden (And.intro M1 <| And.intro M2 <| And.intro M3 M4)
  clear M1 M2 M3 M4 L1 L2 L3 L4
  go_enter Tryz.func4, Tryz.ntmps4
  go_wp2_with fail
  refine HA.out.mono ?_
  clear HA
  rintro e w1 ⟨rfl, hb1⟩
  go_wp2_with fail
  refine (HM.out.1 _).mono ?_
  rintro e w2 ⟨rfl, hb2⟩
  have hb2' := hb1.trans (hb2.mono hb1.size)
  clear hb2
  go_wp2_with fail
  refine (HM.out.2.1 _).mono ?_
  rintro e w3 ⟨rfl, hb3⟩
  have hb3' := hb2'.trans (hb3.mono hb2'.size)
  clear hb3
  have e1 : (9223372036854775807 < (repN k [123]).length + (repN k [125]).length) = False := by have := HL.out; simp; omega
  have HP1 := hidden (show ∀ w', Below w.heap.size w w' → _ from fun w' hb => parse_see (bracesT k) (by have := HL.out; simp [bracesT]; omega) w' (HG.out.below hb))
  have HP2 := hidden (show ∀ w', Below w.heap.size w w' → _ from fun w' hb => parse_see (bracketsT k) (by have := HL.out; simp [bracketsT]; omega) w' (HG.out.below hb))
  have C1 : (∃ t, parseR (bracesT k) = .ok t ∧ t.size = k + 1 ∧ k ≤ 200) ∨ (parseR (bracesT k) = .error (200, 6) ∧ 200 < k) := by
    rcases Nat.lt_or_ge 200 k with h | h
    · exact .inr ⟨HNN.out.high h, h⟩
    · obtain ⟨t, h1, h2⟩ := HNN.out.low h
      exact .inl ⟨t, h1, h2, h⟩
  have C2 : (∃ t, parseR (bracketsT k) = .ok t ∧ t.size = 3 ∧ k ≤ 198) ∨ (parseR (bracketsT k) = .error (199, 6) ∧ 198 < k) := by
    rcases Nat.lt_or_ge 198 k with h | h
    · exact .inr ⟨HNN.out.high2 h, h⟩
    · obtain ⟨t, h1, h2⟩ := HNN.out.low2 h
      exact .inl ⟨t, h1, h2, h⟩
  generalize parseR (bracesT k) = r1 at HP1 C1
  generalize parseR (bracketsT k) = r2 at HP2 C2
  have HC2 := hidden C2
  clear C2 HNN
  obtain ⟨s2, E2, l2, E4'⟩ : ∃ s2 : List UInt8, (⟨(repN k [40]).toArray⟩ : ByteArray) ++ ⟨#[97]⟩ = ⟨s2.toArray⟩ ∧ s2.length ≤ 401 ∧ s2 = repN k [40] ++ [97] :=
    ⟨repN k [40] ++ [97], by apply ByteArray.ext; simp, by have := HL.out; simp; omega, rfl⟩
  obtain ⟨s3, E3, l3, E5'⟩ : ∃ s3 : List UInt8, (⟨s2.toArray⟩ : ByteArray) ++ ⟨(repN k [41]).toArray⟩ = ⟨s3.toArray⟩ ∧ s3.length ≤ 801 ∧ s3 = repN k [40] ++ [97] ++ repN k [41] :=
    ⟨repN k [40] ++ [97] ++ repN k [41], by apply ByteArray.ext; simp [E4'], by have := HL.out; simp; omega, rfl⟩
  have E4 : (⟨s3.toArray⟩ : ByteArray) ++ ⟨#[59]⟩ = ⟨(bracketsT k).toArray⟩ := by
    apply ByteArray.ext
    simp [bracketsT, E5']
  clear E4' E5'
  go_wp2_with fail
  refine (HP1.out _ hb3').mono ?_
  rintro e w4 ⟨hb4, hpost⟩
  have hb4' := hb3'.trans (hb4.mono hb3'.size)
  clear hb4 hb2' hb3' HP1 hb1 e1 E1
  rcases C1 with ⟨t, rfl, ht, hkl⟩ | ⟨rfl, hkl⟩
  · obtain ⟨a, c, rfl, hsee⟩ := hpost
    rw [ht] at hsee ⊢
    clear hsee ht t
    have hlr := HL.out
    have e2 : (9223372036854775807 < (repN k [40]).length + 1) = False := by simp; omega
    have e3 : (9223372036854775807 < s2.length + (repN k [41]).length) = False := by simp; omega
    have e4 : (9223372036854775807 < s3.length + 1) = False := by simp; omega
    have E34 := hidden (And.intro E3 <| And.intro E4 <| And.intro e3 e4)
    clear hlr e3 e4 E3 E4
    have hbz : Below w4.heap.size w4 (w4.alloc (.cells #[.slice (some a) (k + 1) c] 25)) := (Below.refl _ _).alloc (Nat.le_refl _) _
    have hE := heap_alloc_new w4 (.cells #[.slice (some a) (k + 1) c] 25)
    have HE := hidden hE
    clear hE
    go_wp2_with fail
    refine (HM.out.2.2.1 _).mono ?_
    rintro e w5 ⟨rfl, hb5⟩
    have hE5 := (hb5.block w4.heap.size (by simp)).trans HE.out
    have hb5' := hb4'.trans ((hbz.trans (hb5.mono hbz.size)).mono hb4'.size)
    have hs5 : w4.heap.size < w5.heap.size := (Array.getElem?_eq_some_iff.1 hE5).1
    have HE5 := hidden hE5
    clear hb5 HE hbz hE5
    go_wp2_with fail
    refine (HM.out.2.2.2 _).mono ?_
    rintro e w6 ⟨rfl, hb6⟩
    have hE6 := (hb6.block w4.heap.size hs5).trans HE5.out
    have hb6' := hb5'.trans (hb6.mono hb5'.size)
    have hs6 : w4.heap.size < w6.heap.size := (Array.getElem?_eq_some_iff.1 hE6).1
    have HE6 := hidden hE6
    obtain ⟨E3, E4, e3, e4⟩ := E34.out
    clear hb6 hE6 HE5 hb5' hs5 e2 E2
    go_wp2_with fail
    refine (HP2.out _ hb6').mono ?_
    rintro e w7 ⟨hb7, hpost⟩
    have hE7 := (hb7.block w4.heap.size hs6).trans HE6.out
    have hb7' := hb6'.trans (hb7.mono hb6'.size)
    have hs7 : w4.heap.size < w7.heap.size := (Array.getElem?_eq_some_iff.1 hE7).1
    have hc7 : w7.cell? ⟨w4.heap.size, 0, none⟩ = some (.slice (some a) (k + 1) c) := by simp [World.cell?, hE7]
    clear hb7 HE6 hb6' hs6 E3 E4 e3 e4 HP2
    have g1 : (200 < (k : Int)) = False := by simp; omega
    have g2 : ((k : Int) ≤ 200) = True := by simp; omega
    rcases HC2.out with ⟨t2, rfl, ht2, hk2⟩ | ⟨rfl, hk2⟩
    · obtain ⟨a2, c2, rfl, hsee⟩ := hpost
      rw [ht2] at hsee ⊢
      clear hsee ht2 hE7 HC2
      have g3 : (198 < (k : Int)) = False := by simp; omega
      have g4 : ((k : Int) ≤ 198) = True := by simp; omega
      go_wp2_with fail
      all_goals go_ret
      all_goals exact ⟨rfl, hb7'.alloc hb7'.size _⟩
    · obtain ⟨_, rfl⟩ := hpost
      have g3 : (198 < (k : Int)) = True := by simp; omega
      have g4 : ((k : Int) ≤ 198) = False := by simp; omega
      go_wp2_with fail
      all_goals go_ret
      all_goals exact ⟨rfl, hb7'.alloc hb7'.size _⟩
  · obtain ⟨_, rfl⟩ := hpost
    have hlr := HL.out
    have e2 : (9223372036854775807 < (repN k [40]).length + 1) = False := by simp; omega
    have e3 : (9223372036854775807 < s2.length + (repN k [41]).length) = False := by simp; omega
    have e4 : (9223372036854775807 < s3.length + 1) = False := by simp; omega
    have E34 := hidden (And.intro E3 <| And.intro E4 <| And.intro e3 e4)
    clear hlr e3 e4 E3 E4
    have hbz : Below w4.heap.size w4 (w4.alloc (.cells #[.slice none 0 0] 25)) := (Below.refl _ _).alloc (Nat.le_refl _) _
    have hE := heap_alloc_new w4 (.cells #[.slice none 0 0] 25)
    have HE := hidden hE
    clear hE
    go_wp2_with fail
    refine (HM.out.2.2.1 _).mono ?_
    rintro e w5 ⟨rfl, hb5⟩
    have hE5 := (hb5.block w4.heap.size (by simp)).trans HE.out
    have hb5' := hb4'.trans ((hbz.trans (hb5.mono hbz.size)).mono hb4'.size)
    have hs5 : w4.heap.size < w5.heap.size := (Array.getElem?_eq_some_iff.1 hE5).1
    have HE5 := hidden hE5
    clear hb5 HE hbz hE5
    go_wp2_with fail
    refine (HM.out.2.2.2 _).mono ?_
    rintro e w6 ⟨rfl, hb6⟩
    have hE6 := (hb6.block w4.heap.size hs5).trans HE5.out
    have hb6' := hb5'.trans (hb6.mono hb5'.size)
    have hs6 : w4.heap.size < w6.heap.size := (Array.getElem?_eq_some_iff.1 hE6).1
    have HE6 := hidden hE6
    obtain ⟨E3, E4, e3, e4⟩ := E34.out
    clear hb6 hE6 HE5 hb5' hs5 e2 E2
    go_wp2_with fail
    refine (HP2.out _ hb6').mono ?_
    rintro e w7 ⟨hb7, hpost⟩
    have hE7 := (hb7.block w4.heap.size hs6).trans HE6.out
    have hb7' := hb6'.trans (hb7.mono hb6'.size)
    have hs7 : w4.heap.size < w7.heap.size := (Array.getElem?_eq_some_iff.1 hE7).1
    have hc7 : w7.cell? ⟨w4.heap.size, 0, none⟩ = some (.slice none 0 0) := by simp [World.cell?, hE7]
    clear hb7 HE6 hb6' hs6 E3 E4 e3 e4 HP2
    have g1 : (200 < (k : Int)) = True := by simp; omega
    have g2 : ((k : Int) ≤ 200) = False := by simp; omega
    rcases HC2.out with ⟨t2, rfl, ht2, hk2⟩ | ⟨rfl, hk2⟩
    · exfalso; omega
    · obtain ⟨_, rfl⟩ := hpost
      have g3 : (198 < (k : Int)) = True := by simp; omega
      have g4 : ((k : Int) ≤ 198) = False := by simp; omega
      go_wp2_with fail
      all_goals go_ret
      all_goals exact ⟨rfl, hb7'.alloc hb7'.size _⟩

end Go.Proofs.YtgdamcmfdhhheaaGreatDoor
