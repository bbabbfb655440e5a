/- ParseJoined: walked. -/
import Derived.Test.YtgdamcmfdhhheaaGreatDoorMT1
import Derived.Deep.QuietTactic
import Derived.BigQuiet
set_option linter.all false

namespace Go.Proofs.YtgdamcmfdhhheaaGreatDoor
open Go.RowKit Bf

def T.kids : T → List T | .node _ _ _ _ ts => ts

def JoinedIs (s t : List UInt8) : Prop := ∀ a b, parseR s = .ok a → parseR t = .ok b → ∃ c, parseR (s ++ 10 :: t) = .ok c ∧ c.size + 1 = a.size + b.size ∧ (T.kids c).length = (T.kids a).length + (T.kids b).length ∧ a.size ≤ 16384 ∧ b.size ≤ 16384

theorem kids_le (t : T) : (T.kids t).length ≤ t.size := by
  obtain ⟨k, p, x, n, ts⟩ := t
  have := length_le_sizeL ts
  simp only [T.kids, T.size]
  omega

/-- The first node of a tree that is read. -/
theorem see_root {w : World} {a : Addr} {c : Nat} {t : T} (h : NodesSee w (.slice (some a) t.size c) ((flat 0 t).map toI)) :
    ∃ b o, a = ⟨b, o, none⟩ ∧ ∃ ka kc, w.cell? ⟨b, o + 4, none⟩ = some (.slice ka (T.kids t).length kc) := by
  have hp := T.size_pos' t
  have hl : (flat 0 t).length = t.size := flat_length 0 t
  obtain ⟨k, p, x, n, ts⟩ := t
  rcases h with ⟨hnil, _⟩ | ⟨b, o, c', kvs, hv, h1, h2, h3⟩
  · simp at hnil; rw [hnil] at hl; simp at hl; omega
  · rw [List.length_map, hl] at hv
    cases hv
    have hk : 0 < kvs.length := by rw [h2, List.length_map, hl]; omega
    have hc := h3 0 (toI ⟨k, p, x, n, starts (0 + 1) ts⟩) kvs[0] rfl (List.getElem?_eq_getElem hk)
    obtain ⟨ka, kc, hkv⟩ := hc.2.form
    have hlen : (toI ⟨k, p, x, n, starts (0 + 1) ts⟩).kids.length = ts.length := by simp [toI, starts_length]
    rw [hlen] at hkv
    refine ⟨b, o, rfl, ka, kc, ?_⟩
    have := hc.1 4 _ rfl
    rw [hkv] at this
    simp only [Nat.zero_mul, Nat.zero_add] at this
    exact this

set_option maxRecDepth 100000 in
set_option maxHeartbeats 4000000 in
theorem joined_long (s t : List UInt8) (hs : 3000 < s.length ∨ 3000 < t.length) (w : World) (hg : Ground2 w) :
    Calls Tryz.prog 3 #[.string ⟨s.toArray⟩, .string ⟨t.toArray⟩] w fun e w' => e = .returned (.bool true) ∧ Below w.heap.size w w' := by
  have HA := hidden (alive_calls w hg)
  clear hg
  by_cases h1 : 3000 < s.length
  · have hl : ((3000 : Int) < (s.length : Int)) = True := by simp; omega
    clear hs h1
    go_enter Tryz.func3, Tryz.ntmps3
    go_wp2_with fail
    refine HA.out.mono ?_
    rintro e w1 ⟨rfl, hb1⟩
    go_wp2_with fail
    all_goals go_ret
    all_goals exact ⟨rfl, hb1⟩
  · have hl : ((3000 : Int) < (s.length : Int)) = False := by simp; omega
    have hl2 : ((3000 : Int) < (t.length : Int)) = True := by simp; omega
    clear hs h1
    go_enter Tryz.func3, Tryz.ntmps3
    go_wp2_with fail
    refine HA.out.mono ?_
    rintro e w1 ⟨rfl, hb1⟩
    go_wp2_with fail
    all_goals go_ret
    all_goals exact ⟨rfl, hb1⟩

set_option maxRecDepth 100000 in
set_option maxHeartbeats 4000000 in
theorem joined_calls (s t : List UInt8) (hs : s.length ≤ 3000) (ht : t.length ≤ 3000) (hN : JoinedIs s t) (w : World) (hg : Ground2 w) :
    Calls Tryz.prog 3 #[.string ⟨s.toArray⟩, .string ⟨t.toArray⟩] w fun e w' => e = .returned (.bool true) ∧ Below w.heap.size w w' := by
  have HG := hidden hg
  have HA := hidden (alive_calls w hg)
  have HN := hidden hN
  clear hN hg
  have hl : ((3000 : Int) < (s.length : Int)) = False := by simp; omega
  have hl2 : ((3000 : Int) < (t.length : Int)) = False := by simp; omega
  have l1 : s.length ≤ 65536 := by omega
  have l2 : t.length ≤ 65536 := by omega
  have l3 : (s ++ 10 :: t).length ≤ 65536 := by simp; omega
  have HP1 := hidden (show ∀ w', Below w.heap.size w w' → _ from fun w' hb => parse_see s l1 w' (HG.out.below hb))
  have HP2 := hidden (show ∀ w', Below w.heap.size w w' → _ from fun w' hb => parse_see t l2 w' (HG.out.below hb))
  have HP3 := hidden (show ∀ w', Below w.heap.size w w' → _ from fun w' hb => parse_see (s ++ 10 :: t) l3 w' (HG.out.below hb))
  clear l1 l2 l3
  obtain ⟨s2, E1, k1, F1⟩ : ∃ s2 : List UInt8, (⟨s.toArray⟩ : ByteArray) ++ ⟨#[10]⟩ = ⟨s2.toArray⟩ ∧ s2.length ≤ 3001 ∧ s2 = s ++ [10] :=
    ⟨s ++ [10], by apply ByteArray.ext; simp, by simp; omega, rfl⟩
  have E2 : (⟨s2.toArray⟩ : ByteArray) ++ ⟨t.toArray⟩ = ⟨(s ++ 10 :: t).toArray⟩ := by
    apply ByteArray.ext
    simp [F1]
  have e1 : (9223372036854775807 < s.length + 1) = False := by simp; omega
  have e2 : (9223372036854775807 < s2.length + t.length) = False := by simp; omega
  have hN := HN.out
  unfold JoinedIs at hN
  clear HN
  generalize s ++ 10 :: t = st at E2 HP3 hN
  generalize parseR s = r1 at HP1 hN
  generalize parseR t = r2 at HP2 hN
  generalize parseR st = r3 at HP3 hN
  have HN := hidden hN
  have HE := hidden (And.intro E1 <| And.intro E2 <| And.intro e1 e2)
  clear F1 hN hs ht k1 E1 E2 e1 e2
  go_enter Tryz.func3, Tryz.ntmps3
  go_wp2_with fail
  refine HA.out.mono ?_
  clear HA
  rintro e w1 ⟨rfl, hb1⟩
  go_wp2_with fail
  refine (HP1.out _ hb1).mono ?_
  rintro e w2 ⟨hb2, hpost⟩
  have hb2' := hb1.trans (hb2.mono hb1.size)
  clear hb1 hb2
  cases r1 with
  | error p =>
    obtain ⟨p, n⟩ := p
    obtain ⟨hn, rfl⟩ := hpost
    have hne : ((n : Int) != 0) = true := by simp; omega
    clear hn
    go_wp2_with fail
    refine (HP2.out _ (hb2'.alloc hb2'.size _)).mono ?_
    rintro e w3 ⟨hb3, hpost⟩
    have hb3' := (hb2'.alloc hb2'.size (.cells #[.slice none 0 0] 25)).trans (hb3.mono (hb2'.alloc hb2'.size (.cells #[.slice none 0 0] 25)).size)
    clear hb3
    cases r2 with
    | error p2 =>
      obtain ⟨p2, n2⟩ := p2
      obtain ⟨_, rfl⟩ := hpost
      go_wp2_with fail
      all_goals go_ret
      all_goals exact ⟨rfl, hb3'.alloc hb3'.size _⟩
    | ok t2 =>
      obtain ⟨a, c, rfl, hsee⟩ := hpost
      clear hsee
      go_wp2_with fail
      all_goals go_ret
      all_goals exact ⟨rfl, hb3'.alloc hb3'.size _⟩
  | ok t1 =>
    obtain ⟨a, c, rfl, hsee⟩ := hpost
    obtain ⟨b1, o1, rfl, ka1, kc1, q1⟩ := see_root hsee
    have Q1 := hidden q1
    clear hsee q1
    have hbz : Below w2.heap.size w2 (w2.alloc (.cells #[.slice (some ⟨b1, o1, none⟩) t1.size c] 25)) := (Below.refl _ _).alloc (Nat.le_refl _) _
    have HE1 := hidden (heap_alloc_new w2 (.cells #[.slice (some ⟨b1, o1, none⟩) t1.size c] 25))
    have hb2x := hb2'.trans (hbz.mono hb2'.size)
    go_wp2_with fail
    refine (HP2.out _ hb2x).mono ?_
    rintro e w3 ⟨hb3, hpost⟩
    have hE3 := (hb3.block w2.heap.size (by simp)).trans HE1.out
    have hb23 : Below w2.heap.size w2 w3 := hbz.trans (hb3.mono hbz.size)
    have hb3' := hb2'.trans (hb23.mono hb2'.size)
    have hs3 : w2.heap.size < w3.heap.size := (Array.getElem?_eq_some_iff.1 hE3).1
    have HE3 := hidden hE3
    have Q3 := hidden (cell_below hb23 Q1.out)
    clear hb3 hE3 hbz HE1 Q1 hb2x
    cases r2 with
    | error p2 =>
      obtain ⟨p2, n2⟩ := p2
      obtain ⟨hn, rfl⟩ := hpost
      have hne : ((n2 : Int) != 0) = true := by simp; omega
      clear hn
      go_wp2_with fail
      all_goals go_ret
      all_goals exact ⟨rfl, hb3'.alloc hb3'.size _⟩
    | ok t2 =>
      obtain ⟨a2, c2, rfl, hsee⟩ := hpost
      obtain ⟨b2, o2, rfl, ka2, kc2, q2⟩ := see_root hsee
      have Q2 := hidden q2
      clear hsee q2
      obtain ⟨t3, rfl, hsz, hkd, hm1, hm2⟩ := HN.out t1 t2 rfl rfl
      have hbz : Below w3.heap.size w3 (w3.alloc (.cells #[.slice (some ⟨b2, o2, none⟩) t2.size c2] 25)) := (Below.refl _ _).alloc (Nat.le_refl _) _
      have HE1 := hidden (heap_alloc_new w3 (.cells #[.slice (some ⟨b2, o2, none⟩) t2.size c2] 25))
      have hb3x := hb3'.trans (hbz.mono hb3'.size)
      obtain ⟨E1, E2, e1, e2⟩ := HE.out
      have hsz' := hidden hsz
      have hkd' := hidden hkd
      clear hsz hkd
      go_wp2_with fail
      refine (HP3.out _ hb3x).mono ?_
      rintro e w4 ⟨hb4, hpost⟩
      have hb34 : Below w3.heap.size w3 w4 := hbz.trans (hb4.mono hbz.size)
      have hb4' := hb3'.trans (hb34.mono hb3'.size)
      have x1 := (hb34.block w2.heap.size hs3).trans HE3.out
      have x2 := (hb4.block w3.heap.size (by simp)).trans HE1.out
      have y1 : w4.cell? ⟨w2.heap.size, 0, none⟩ = some (.slice (some ⟨b1, o1, none⟩) t1.size c) := by simp [World.cell?, x1]
      have y2 : w4.cell? ⟨w3.heap.size, 0, none⟩ = some (.slice (some ⟨b2, o2, none⟩) t2.size c2) := by simp [World.cell?, x2]
      have z1 : w2.heap.size < w4.heap.size := (Array.getElem?_eq_some_iff.1 x1).1
      have z2 : w3.heap.size < w4.heap.size := (Array.getElem?_eq_some_iff.1 x2).1
      have q1 := cell_below hb34 Q3.out
      have q2 := cell_below hb34 Q2.out
      obtain ⟨a3, c3, rfl, hsee⟩ := hpost
      obtain ⟨b3, o3, rfl, ka3, kc3, q3⟩ := see_root hsee
      have u1 : b1 < w4.heap.size := cell_lt q1
      have u2 : b2 < w4.heap.size := cell_lt q2
      have u3 : b3 < w4.heap.size := cell_lt q3
      have v1 := T.size_pos' t1
      have v2 := T.size_pos' t2
      have v3 := T.size_pos' t3
      have k1 := kids_le t1
      have k2 := kids_le t2
      have g0 : IntKind.i64.wrap ((t1.size : Int) + (t2.size : Int)) = (t1.size : Int) + (t2.size : Int) := by simp [IntKind.wrap, IntKind.bits, IntKind.signed]; omega
      have g1 : IntKind.i64.wrap ((t1.size : Int) + (t2.size : Int) - 1) = (t3.size : Int) := by have := hsz'.out; simp [IntKind.wrap, IntKind.bits, IntKind.signed]; omega
      have g2 : IntKind.i64.wrap (((T.kids t1).length : Int) + ((T.kids t2).length : Int)) = ((T.kids t3).length : Int) := by have := hkd'.out; simp [IntKind.wrap, IntKind.bits, IntKind.signed]; omega
      clear k1 k2 hm1 hm2
      have hbq : Below w4.heap.size w4 (w4.alloc (.cells #[.slice (some ⟨b3, o3, none⟩) t3.size c3] 25)) := (Below.refl _ _).alloc (Nat.le_refl _) _
      have hb5 := (hb4'.alloc hb4'.size (.cells #[.slice (some ⟨b3, o3, none⟩) t3.size c3] 25)).drew
      clear hbq
      clear hsee hb4 x1 x2 hb34 hbz HE1 E1 E2 e1 e2 hb3x HP1 HP2 HP3 HE HE3 Q3 Q2 hs3
      go_wp2_with fail
      go_quiet (fail)
      go_wp2_with fail
      go_ret
      exact ⟨rfl, ⟨hb5.os, hb5.tape, hb5.output, hb5.size, hb5.block⟩⟩

end Go.Proofs.YtgdamcmfdhhheaaGreatDoor
