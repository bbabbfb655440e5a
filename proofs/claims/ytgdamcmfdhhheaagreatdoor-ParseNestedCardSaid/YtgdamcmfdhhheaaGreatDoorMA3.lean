/- Parts of the parser, walked: loops, functions' rests. -/
import Derived.Test.YtgdamcmfdhhheaaGreatDoorMA1
import Derived.Deep.LoopGhost
import Derived.Deep.RegionHeld2
set_option linter.all false

namespace Go.Proofs.YtgdamcmfdhhheaaGreatDoor
open Go.RowKit Bf

set_option maxRecDepth 100000 in
set_option maxHeartbeats 4000000 in
theorem loop_step (n : Nat) (ih : All n) (pos : Nat) : CallN 99 [.int .i64 pos] (fun lv => .loop lv pos) (n + 1) := by
  intro c w s R lv h hr hlv hle hne
  change Calls _ _ #[.pointer (some ⟨c.bp, 0, none⟩), .int .i64 pos] w (PostN c w s (loopB (pRun n) lv pos R))
  have HN : Hid (loopB (pRun n) lv pos R ≠ .out) := hne
  have HL : Hid (s.lv = (lv : Int)) := hlv
  clear hne hlv
  have m0 := Mid.start h hr
  clear hr
  go_enter Tryz.func99, Tryz.ntmps99
  go_wp2_with fail
  by_cases hx1 : isTok (hd R) [40] = true
  rotate_left
  · refine (need_no m0.ps m0.rem [40] (by simpa using hx1)).mono ?_
    rintro e wz hbad
    have hb2 := Bad.trans m0.fr hbad
    obtain ⟨rfl, _⟩ := hbad
    exact ⟨rfl, PostN.bad hb2 (by simp [loopB, isOf, need, name, fail, Res.bind, ok1, hx1])⟩
  refine (need_yes m0.ps m0.rem [40] hx1).mono ?_
  rintro e w2 ⟨rfl, hp, hf⟩
  have m3 := m0.next hp hf
  clear hp hf m0
  go_wp2_with fail
  have h0 := m3.ps.c0
  have h1 := m3.ps.c1
  have hbp := m3.ps.bp_lt
  have hbl := m3.ps.bl_lt
  have hi := m3.ps.i
  have hlen := m3.ps.len
  have t0 := m3.ps.t0 m3.rem
  have t1 := m3.ps.t1 m3.rem
  have t2 := m3.ps.t2 m3.rem
  have t3 := m3.ps.t3 m3.rem
  go_wp2
  go_region
  clear h0 h1 hbp hbl hi hlen t0 t1 t2 t3
  obtain ⟨m5, g4⟩ := m3.held
  clear m3
  change Mid c w s ((w2.alloc (.cells #[.int .u8 (hd R.tail).kind, .int .i64 (hd R.tail).pos, .string ⟨(hd R.tail).text.toArray⟩, .float .f64 (hd R.tail).num] 59)).drew) _ _ _ _ _ at m5
  change Held c ((w2.alloc (.cells #[.int .u8 (hd R.tail).kind, .int .i64 (hd R.tail).pos, .string ⟨(hd R.tail).text.toArray⟩, .float .f64 (hd R.tail).num] 59)).drew) _ _ _ at g4
  generalize ((w2.alloc (.cells #[.int .u8 (hd R.tail).kind, .int .i64 (hd R.tail).pos, .string ⟨(hd R.tail).text.toArray⟩, .float .f64 (hd R.tail).num] 59)).drew) = w6 at m5 g4 ⊢
  go_wp2_with fail
  by_cases hq7 : isTok (hd R.tail) [108, 101, 116] = true
  · refine (take_yes m5.ps m5.rem [108, 101, 116] hq7).mono ?_
    rintro e w8 ⟨rfl, hp, hf⟩
    have m9 := m5.next hp hf
    have g4' := g4.fr hf
    have g10 := g4'
    clear g4' g4
    clear hp hf m5
    go_wp2_with fail
    have g10' := g10.below ((Below.refl _ _).drew)
    have m11 := m9.below ((Below.refl _ _).drew)
    clear m9
    have g12 := g10'
    clear g10' g10
    have q13 := g12.c1
    go_region_held2 (fun w' => w'.cell? ⟨w2.heap.size, 1, none⟩ = some (.int .i64 (hd R.tail).pos))
      (first | assumption | go_keep)
      (first
        | (go_at_call 95
           by_cases hx14 : ((hd R.tail.tail).kind == 1) = true
           rotate_left
           · refine (name_no m11.ps m11.rem (by simpa using hx14)).mono ?_
             rintro e wz hbad
             have hb2 := Bad.trans m11.fr hbad
             obtain ⟨rfl, _⟩ := hbad
             exact ⟨rfl, PostN.bad hb2 (by simp [loopB, isOf, need, name, fail, Res.bind, ok1, hx1, hq7, hx14])⟩
           refine (name_yes m11.ps m11.rem hx14).mono ?_
           rintro e w15 ⟨rfl, hp, hf⟩
           have m16 := m11.next hp hf
           have g12' := g12.fr hf
           have g17 := g12'
           clear g12' g12
           clear hp hf m11
           clear q13
           have q18 := g17.c1)
        | (go_at_call 57
           refine (node_mid m16 Lst.nil h.room 3 (hd R.tail).pos (hd R.tail.tail).text).mono ?_
           rintro e w19 ⟨s21, k20, rfl, m22, hp⟩
           have g17' := g17.kept hp (by simp [Value.ownBlock])
           clear hp m16
           have g23 := g17'
           clear g17' g17
           clear q18
           have q24 := g23.c1))
    clear q24
    go_wp2_with fail
    by_cases hq25 : isTok (hd R.tail.tail.tail) [105, 110] = true
    · refine (take_yes m22.ps m22.rem [105, 110] hq25).mono ?_
      rintro e w26 ⟨rfl, hp, hf⟩
      have m27 := m22.next hp hf
      clear hp hf m22
      go_wp2_with fail
      have HChc28 : Hid (pRun n (.assign lv) R.tail.tail.tail.tail ≠ .out) := fun e => HN.out (by simp [loopB, isOf, need, name, fail, Res.bind, ok1, hx1, hq7, hx14, hq25, e])
      refine (ih.assign _ _ _ _ _ m27.ps m27.rem (m27.lv HL.out) hle HChc28.out).mono ?_
      rintro e w29 hpost
      rcases hc28 : pRun n (.assign lv) R.tail.tail.tail.tail with ⟨tshc28, Rhc28⟩ | ⟨en, p⟩ | _
      rotate_left
      · rw [hc28] at hpost
        have hb2 := Bad.trans m27.fr hpost
        obtain ⟨rfl, _⟩ := hpost
        exact ⟨rfl, PostN.bad hb2 (by simp [loopB, isOf, need, name, fail, Res.bind, ok1, hx1, hq7, hx14, hq25, hc28])⟩
      · exact absurd hc28 HChc28.out
      rw [hc28] at hpost
      obtain ⟨shc28, khc28, thc28, rfl, rfl, mm⟩ := hpost
      have m30 := m27.call mm
      have Hhc28 := hidden hc28
      clear mm m27 hc28 HChc28
      go_wp2_with fail
      by_cases hx31 : isTok (hd Rhc28) [41] = true
      rotate_left
      · refine (need_no m30.ps m30.rem [41] (by simpa using hx31)).mono ?_
        rintro e wz hbad
        have hb2 := Bad.trans m30.fr hbad
        obtain ⟨rfl, _⟩ := hbad
        exact ⟨rfl, PostN.bad hb2 (by simp [loopB, isOf, need, name, fail, Res.bind, ok1, hx1, hq7, hx14, hq25, Hhc28.out, hx31])⟩
      refine (need_yes m30.ps m30.rem [41] hx31).mono ?_
      rintro e w32 ⟨rfl, hp, hf⟩
      have m33 := m30.next hp hf
      clear hp hf m30
      go_wp2_with fail
      have HChc34 : Hid (pRun n (.body lv) Rhc28.tail ≠ .out) := fun e => HN.out (by simp [loopB, isOf, need, name, fail, Res.bind, ok1, hx1, hq7, hx14, hq25, Hhc28.out, hx31, e])
      refine (ih.body _ _ _ _ _ m33.ps m33.rem (m33.lv HL.out) hle HChc34.out).mono ?_
      rintro e w35 hpost
      rcases hc34 : pRun n (.body lv) Rhc28.tail with ⟨tshc34, Rhc34⟩ | ⟨en, p⟩ | _
      rotate_left
      · rw [hc34] at hpost
        have hb2 := Bad.trans m33.fr hpost
        obtain ⟨rfl, _⟩ := hpost
        exact ⟨rfl, PostN.bad hb2 (by simp [loopB, isOf, need, name, fail, Res.bind, ok1, hx1, hq7, hx14, hq25, Hhc28.out, hx31, hc34])⟩
      · exact absurd hc34 HChc34.out
      rw [hc34] at hpost
      obtain ⟨shc34, khc34, thc34, rfl, rfl, mm⟩ := hpost
      have m36 := m33.call mm
      have Hhc34 := hidden hc34
      clear mm m33 hc34 HChc34
      go_wp2_with fail
      have l37 : Lst c w (w35.alloc (.cells #[.int .i64 k20, .int .i64 khc28, .int .i64 khc34] 3)) _ (.slice (some ⟨w35.heap.size, 0, none⟩) 3 3) [k20, khc28, khc34] := Lst.made m36 [k20, khc28, khc34] (by simp)
      have m38 := m36.below ((Below.refl _ _).alloc (Nat.le_refl _) (.cells #[.int .i64 k20, .int .i64 khc28, .int .i64 khc34] 3))
      clear m36
      generalize w35.alloc (.cells #[.int .i64 k20, .int .i64 khc28, .int .i64 khc34] 3) = w39 at m38 l37 ⊢
      refine (node_mid m38 l37 h.room 9 pos []).mono ?_
      rintro e w40 ⟨s42, k41, rfl, m43, hp⟩
      clear hp m38
      go_wp2_with fail
      go_ret
      exact PostN.fin m43 (by simp [loopB, isOf, need, name, fail, Res.bind, ok1, hx1, hq7, hx14, hq25, Hhc28.out, hx31, Hhc34.out])
    · refine (take_no m22.ps m22.rem [105, 110] (by simpa using hq25)).mono ?_
      rintro e w44 ⟨rfl, hb⟩
      have m45 := m22.below hb
      clear m22
      clear hb
      go_wp2_with fail
      have h0 := m45.ps.c0
      have h1 := m45.ps.c1
      have hbp := m45.ps.bp_lt
      have hbl := m45.ps.bl_lt
      have hi := m45.ps.i
      have hlen := m45.ps.len
      have t0 := m45.ps.t0 m45.rem
      have t1 := m45.ps.t1 m45.rem
      have t2 := m45.ps.t2 m45.rem
      have t3 := m45.ps.t3 m45.rem
      go_wp2
      go_region
      clear h0 h1 hbp hbl hi hlen t0 t1 t2 t3
      obtain ⟨m47, g46⟩ := m45.held
      clear m45
      change Mid c w s ((w44.alloc (.cells #[.int .u8 (hd R.tail.tail.tail).kind, .int .i64 (hd R.tail.tail.tail).pos, .string ⟨(hd R.tail.tail.tail).text.toArray⟩, .float .f64 (hd R.tail.tail.tail).num] 59)).drew) _ _ _ _ _ at m47
      change Held c ((w44.alloc (.cells #[.int .u8 (hd R.tail.tail.tail).kind, .int .i64 (hd R.tail.tail.tail).pos, .string ⟨(hd R.tail.tail.tail).text.toArray⟩, .float .f64 (hd R.tail.tail.tail).num] 59)).drew) _ _ _ at g46
      generalize ((w44.alloc (.cells #[.int .u8 (hd R.tail.tail.tail).kind, .int .i64 (hd R.tail.tail.tail).pos, .string ⟨(hd R.tail.tail.tail).text.toArray⟩, .float .f64 (hd R.tail.tail.tail).num] 59)).drew) = w48 at m47 g46 ⊢
      have q0 := g46.c0
      have q2 := g46.c2
      by_cases hk : ((hd R.tail.tail.tail).kind == 1) = true
      · have hk1 : (((hd R.tail.tail.tail).kind : Int) == 1) = true := by rw [← hk]; exact beqK _ 1
        have hk2 : ((hd R.tail.tail.tail).kind : Int) = 1 := by simp at hk; omega
        by_cases ht : ((hd R.tail.tail.tail).text == [111, 102]) = true
        · have hz : (hd R.tail.tail.tail).kind ≠ 0 := by simp at hk; omega
          have hof : isOf (hd R.tail.tail.tail) = true := by simp only [isOf, hk, ht, Bool.and_self]
          clear hk
          have hmore := m47.ps.more m47.rem hz
          have h1 := m47.ps.c1
          have fz1 := m47.ps.fz 1
          have hlen := m47.ps.len
          have hnx := m47.ps.next hmore
          have m49 := m47.next hnx.1 hnx.2
          go_wp2_with fail
          clear h1 fz1 hlen hnx hmore m47
          generalize (w48.setCell ⟨c.bp, 1, none⟩ (.int .i64 (((s21).i : Int) + 1))) = w50 at m49 ⊢
          have HChc51 : Hid (pRun n (.assign lv) R.tail.tail.tail.tail ≠ .out) := fun e => HN.out (by simp [loopB, need, name, fail, Res.bind, ok1, hx1, hq7, hx14, hq25, hof, e])
          refine (ih.assign _ _ _ _ _ m49.ps m49.rem (m49.lv HL.out) hle HChc51.out).mono ?_
          rintro e w52 hpost
          rcases hc51 : pRun n (.assign lv) R.tail.tail.tail.tail with ⟨tshc51, Rhc51⟩ | ⟨en, p⟩ | _
          rotate_left
          · rw [hc51] at hpost
            have hb2 := Bad.trans m49.fr hpost
            obtain ⟨rfl, _⟩ := hpost
            exact ⟨rfl, PostN.bad hb2 (by simp [loopB, need, name, fail, Res.bind, ok1, hx1, hq7, hx14, hq25, hof, hc51])⟩
          · exact absurd hc51 HChc51.out
          rw [hc51] at hpost
          obtain ⟨shc51, khc51, thc51, rfl, rfl, mm⟩ := hpost
          have m53 := m49.call mm
          have Hhc51 := hidden hc51
          clear mm m49 hc51 HChc51
          go_wp2_with fail
          by_cases hx54 : isTok (hd Rhc51) [41] = true
          rotate_left
          · refine (need_no m53.ps m53.rem [41] (by simpa using hx54)).mono ?_
            rintro e wz hbad
            have hb2 := Bad.trans m53.fr hbad
            obtain ⟨rfl, _⟩ := hbad
            exact ⟨rfl, PostN.bad hb2 (by simp [loopB, need, name, fail, Res.bind, ok1, hx1, hq7, hx14, hq25, hof, Hhc51.out, hx54])⟩
          refine (need_yes m53.ps m53.rem [41] hx54).mono ?_
          rintro e w55 ⟨rfl, hp, hf⟩
          have m56 := m53.next hp hf
          clear hp hf m53
          go_wp2_with fail
          have HChc57 : Hid (pRun n (.body lv) Rhc51.tail ≠ .out) := fun e => HN.out (by simp [loopB, need, name, fail, Res.bind, ok1, hx1, hq7, hx14, hq25, hof, Hhc51.out, hx54, e])
          refine (ih.body _ _ _ _ _ m56.ps m56.rem (m56.lv HL.out) hle HChc57.out).mono ?_
          rintro e w58 hpost
          rcases hc57 : pRun n (.body lv) Rhc51.tail with ⟨tshc57, Rhc57⟩ | ⟨en, p⟩ | _
          rotate_left
          · rw [hc57] at hpost
            have hb2 := Bad.trans m56.fr hpost
            obtain ⟨rfl, _⟩ := hpost
            exact ⟨rfl, PostN.bad hb2 (by simp [loopB, need, name, fail, Res.bind, ok1, hx1, hq7, hx14, hq25, hof, Hhc51.out, hx54, hc57])⟩
          · exact absurd hc57 HChc57.out
          rw [hc57] at hpost
          obtain ⟨shc57, khc57, thc57, rfl, rfl, mm⟩ := hpost
          have m59 := m56.call mm
          have Hhc57 := hidden hc57
          clear mm m56 hc57 HChc57
          go_wp2_with fail
          have l60 : Lst c w (w58.alloc (.cells #[.int .i64 k20, .int .i64 khc51, .int .i64 khc57] 3)) _ (.slice (some ⟨w58.heap.size, 0, none⟩) 3 3) [k20, khc51, khc57] := Lst.made m59 [k20, khc51, khc57] (by simp)
          have m61 := m59.below ((Below.refl _ _).alloc (Nat.le_refl _) (.cells #[.int .i64 k20, .int .i64 khc51, .int .i64 khc57] 3))
          clear m59
          generalize w58.alloc (.cells #[.int .i64 k20, .int .i64 khc51, .int .i64 khc57] 3) = w62 at m61 l60 ⊢
          refine (node_mid m61 l60 h.room 10 pos []).mono ?_
          rintro e w63 ⟨s65, k64, rfl, m66, hp⟩
          clear hp m61
          go_wp2_with fail
          go_ret
          exact PostN.fin m66 (by simp [loopB, need, name, fail, Res.bind, ok1, hx1, hq7, hx14, hq25, hof, Hhc51.out, hx54, Hhc57.out])
        · have ht' : ((hd R.tail.tail.tail).text == [111, 102]) = false := by simpa using ht
          have hof : isOf (hd R.tail.tail.tail) = false := by simp only [isOf, ht', Bool.and_false]
          clear hk ht
          go_wp2_with fail
          refine (fail_calls m47.ps m47.rem 5).mono ?_
          rintro e wz hbad
          have hb2 := Bad.trans m47.fr hbad
          obtain ⟨rfl, _⟩ := hbad
          exact ⟨rfl, PostN.bad hb2 (by simp [loopB, need, name, fail, Res.bind, ok1, hx1, hq7, hx14, hq25, hof])⟩
      · have hk1 : (((hd R.tail.tail.tail).kind : Int) == 1) = false := by rw [show (((hd R.tail.tail.tail).kind : Int) == 1) = ((hd R.tail.tail.tail).kind == 1) from beqK _ 1]; simpa using hk
        have hk2 : ¬ ((hd R.tail.tail.tail).kind : Int) = 1 := by simp at hk; omega
        have hof : isOf (hd R.tail.tail.tail) = false := by simp [isOf]; intro h; exact absurd (by simpa using h) hk
        clear hk
        go_wp2_with fail
        refine (fail_calls m47.ps m47.rem 5).mono ?_
        rintro e wz hbad
        have hb2 := Bad.trans m47.fr hbad
        obtain ⟨rfl, _⟩ := hbad
        exact ⟨rfl, PostN.bad hb2 (by simp [loopB, need, name, fail, Res.bind, ok1, hx1, hq7, hx14, hq25, hof])⟩
  · refine (take_no m5.ps m5.rem [108, 101, 116] (by simpa using hq7)).mono ?_
    rintro e w67 ⟨rfl, hb⟩
    have g4' := g4.below hb
    have m68 := m5.below hb
    clear m5
    have g69 := g4'
    clear g4' g4
    clear hb
    go_wp2_with fail
    by_cases hx70 : isTok (hd R.tail) [99, 111, 110, 115, 116] = true
    rotate_left
    · refine (need_no m68.ps m68.rem [99, 111, 110, 115, 116] (by simpa using hx70)).mono ?_
      rintro e wz hbad
      have hb2 := Bad.trans m68.fr hbad
      obtain ⟨rfl, _⟩ := hbad
      exact ⟨rfl, PostN.bad hb2 (by simp [loopB, need, name, fail, Res.bind, ok1, hx1, hq7, hx70])⟩
    refine (need_yes m68.ps m68.rem [99, 111, 110, 115, 116] hx70).mono ?_
    rintro e w71 ⟨rfl, hp, hf⟩
    have m72 := m68.next hp hf
    have g69' := g69.fr hf
    have g73 := g69'
    clear g69' g69
    clear hp hf m68
    go_wp2_with fail
    have g73' := g73.below ((Below.refl _ _).drew)
    have m74 := m72.below ((Below.refl _ _).drew)
    clear m72
    have g75 := g73'
    clear g73' g73
    have q76 := g75.c1
    go_region_held2 (fun w' => w'.cell? ⟨w2.heap.size, 1, none⟩ = some (.int .i64 (hd R.tail).pos))
      (first | assumption | go_keep)
      (first
        | (go_at_call 95
           by_cases hx77 : ((hd R.tail.tail).kind == 1) = true
           rotate_left
           · refine (name_no m74.ps m74.rem (by simpa using hx77)).mono ?_
             rintro e wz hbad
             have hb2 := Bad.trans m74.fr hbad
             obtain ⟨rfl, _⟩ := hbad
             exact ⟨rfl, PostN.bad hb2 (by simp [loopB, need, name, fail, Res.bind, ok1, hx1, hq7, hx70, hx77])⟩
           refine (name_yes m74.ps m74.rem hx77).mono ?_
           rintro e w78 ⟨rfl, hp, hf⟩
           have m79 := m74.next hp hf
           have g75' := g75.fr hf
           have g80 := g75'
           clear g75' g75
           clear hp hf m74
           clear q76
           have q81 := g80.c1)
        | (go_at_call 57
           refine (node_mid m79 Lst.nil h.room 4 (hd R.tail).pos (hd R.tail.tail).text).mono ?_
           rintro e w82 ⟨s84, k83, rfl, m85, hp⟩
           have g80' := g80.kept hp (by simp [Value.ownBlock])
           clear hp m79
           have g86 := g80'
           clear g80' g80
           clear q81
           have q87 := g86.c1))
    clear q87
    go_wp2_with fail
    by_cases hq88 : isTok (hd R.tail.tail.tail) [105, 110] = true
    · refine (take_yes m85.ps m85.rem [105, 110] hq88).mono ?_
      rintro e w89 ⟨rfl, hp, hf⟩
      have m90 := m85.next hp hf
      clear hp hf m85
      go_wp2_with fail
      have HChc91 : Hid (pRun n (.assign lv) R.tail.tail.tail.tail ≠ .out) := fun e => HN.out (by simp [loopB, need, name, fail, Res.bind, ok1, hx1, hq7, hx70, hx77, hq88, e])
      refine (ih.assign _ _ _ _ _ m90.ps m90.rem (m90.lv HL.out) hle HChc91.out).mono ?_
      rintro e w92 hpost
      rcases hc91 : pRun n (.assign lv) R.tail.tail.tail.tail with ⟨tshc91, Rhc91⟩ | ⟨en, p⟩ | _
      rotate_left
      · rw [hc91] at hpost
        have hb2 := Bad.trans m90.fr hpost
        obtain ⟨rfl, _⟩ := hpost
        exact ⟨rfl, PostN.bad hb2 (by simp [loopB, need, name, fail, Res.bind, ok1, hx1, hq7, hx70, hx77, hq88, hc91])⟩
      · exact absurd hc91 HChc91.out
      rw [hc91] at hpost
      obtain ⟨shc91, khc91, thc91, rfl, rfl, mm⟩ := hpost
      have m93 := m90.call mm
      have Hhc91 := hidden hc91
      clear mm m90 hc91 HChc91
      go_wp2_with fail
      by_cases hx94 : isTok (hd Rhc91) [41] = true
      rotate_left
      · refine (need_no m93.ps m93.rem [41] (by simpa using hx94)).mono ?_
        rintro e wz hbad
        have hb2 := Bad.trans m93.fr hbad
        obtain ⟨rfl, _⟩ := hbad
        exact ⟨rfl, PostN.bad hb2 (by simp [loopB, need, name, fail, Res.bind, ok1, hx1, hq7, hx70, hx77, hq88, Hhc91.out, hx94])⟩
      refine (need_yes m93.ps m93.rem [41] hx94).mono ?_
      rintro e w95 ⟨rfl, hp, hf⟩
      have m96 := m93.next hp hf
      clear hp hf m93
      go_wp2_with fail
      have HChc97 : Hid (pRun n (.body lv) Rhc91.tail ≠ .out) := fun e => HN.out (by simp [loopB, need, name, fail, Res.bind, ok1, hx1, hq7, hx70, hx77, hq88, Hhc91.out, hx94, e])
      refine (ih.body _ _ _ _ _ m96.ps m96.rem (m96.lv HL.out) hle HChc97.out).mono ?_
      rintro e w98 hpost
      rcases hc97 : pRun n (.body lv) Rhc91.tail with ⟨tshc97, Rhc97⟩ | ⟨en, p⟩ | _
      rotate_left
      · rw [hc97] at hpost
        have hb2 := Bad.trans m96.fr hpost
        obtain ⟨rfl, _⟩ := hpost
        exact ⟨rfl, PostN.bad hb2 (by simp [loopB, need, name, fail, Res.bind, ok1, hx1, hq7, hx70, hx77, hq88, Hhc91.out, hx94, hc97])⟩
      · exact absurd hc97 HChc97.out
      rw [hc97] at hpost
      obtain ⟨shc97, khc97, thc97, rfl, rfl, mm⟩ := hpost
      have m99 := m96.call mm
      have Hhc97 := hidden hc97
      clear mm m96 hc97 HChc97
      go_wp2_with fail
      have l100 : Lst c w (w98.alloc (.cells #[.int .i64 k83, .int .i64 khc91, .int .i64 khc97] 3)) _ (.slice (some ⟨w98.heap.size, 0, none⟩) 3 3) [k83, khc91, khc97] := Lst.made m99 [k83, khc91, khc97] (by simp)
      have m101 := m99.below ((Below.refl _ _).alloc (Nat.le_refl _) (.cells #[.int .i64 k83, .int .i64 khc91, .int .i64 khc97] 3))
      clear m99
      generalize w98.alloc (.cells #[.int .i64 k83, .int .i64 khc91, .int .i64 khc97] 3) = w102 at m101 l100 ⊢
      refine (node_mid m101 l100 h.room 9 pos []).mono ?_
      rintro e w103 ⟨s105, k104, rfl, m106, hp⟩
      clear hp m101
      go_wp2_with fail
      go_ret
      exact PostN.fin m106 (by simp [loopB, need, name, fail, Res.bind, ok1, hx1, hq7, hx70, hx77, hq88, Hhc91.out, hx94, Hhc97.out])
    · refine (take_no m85.ps m85.rem [105, 110] (by simpa using hq88)).mono ?_
      rintro e w107 ⟨rfl, hb⟩
      have m108 := m85.below hb
      clear m85
      clear hb
      go_wp2_with fail
      have h0 := m108.ps.c0
      have h1 := m108.ps.c1
      have hbp := m108.ps.bp_lt
      have hbl := m108.ps.bl_lt
      have hi := m108.ps.i
      have hlen := m108.ps.len
      have t0 := m108.ps.t0 m108.rem
      have t1 := m108.ps.t1 m108.rem
      have t2 := m108.ps.t2 m108.rem
      have t3 := m108.ps.t3 m108.rem
      go_wp2
      go_region
      clear h0 h1 hbp hbl hi hlen t0 t1 t2 t3
      obtain ⟨m110, g109⟩ := m108.held
      clear m108
      change Mid c w s ((w107.alloc (.cells #[.int .u8 (hd R.tail.tail.tail).kind, .int .i64 (hd R.tail.tail.tail).pos, .string ⟨(hd R.tail.tail.tail).text.toArray⟩, .float .f64 (hd R.tail.tail.tail).num] 59)).drew) _ _ _ _ _ at m110
      change Held c ((w107.alloc (.cells #[.int .u8 (hd R.tail.tail.tail).kind, .int .i64 (hd R.tail.tail.tail).pos, .string ⟨(hd R.tail.tail.tail).text.toArray⟩, .float .f64 (hd R.tail.tail.tail).num] 59)).drew) _ _ _ at g109
      generalize ((w107.alloc (.cells #[.int .u8 (hd R.tail.tail.tail).kind, .int .i64 (hd R.tail.tail.tail).pos, .string ⟨(hd R.tail.tail.tail).text.toArray⟩, .float .f64 (hd R.tail.tail.tail).num] 59)).drew) = w111 at m110 g109 ⊢
      have q0 := g109.c0
      have q2 := g109.c2
      by_cases hk : ((hd R.tail.tail.tail).kind == 1) = true
      · have hk1 : (((hd R.tail.tail.tail).kind : Int) == 1) = true := by rw [← hk]; exact beqK _ 1
        have hk2 : ((hd R.tail.tail.tail).kind : Int) = 1 := by simp at hk; omega
        by_cases ht : ((hd R.tail.tail.tail).text == [111, 102]) = true
        · have hz : (hd R.tail.tail.tail).kind ≠ 0 := by simp at hk; omega
          have hof : isOf (hd R.tail.tail.tail) = true := by simp only [isOf, hk, ht, Bool.and_self]
          clear hk
          have hmore := m110.ps.more m110.rem hz
          have h1 := m110.ps.c1
          have fz1 := m110.ps.fz 1
          have hlen := m110.ps.len
          have hnx := m110.ps.next hmore
          have m112 := m110.next hnx.1 hnx.2
          go_wp2_with fail
          clear h1 fz1 hlen hnx hmore m110
          generalize (w111.setCell ⟨c.bp, 1, none⟩ (.int .i64 (((s84).i : Int) + 1))) = w113 at m112 ⊢
          have HChc114 : Hid (pRun n (.assign lv) R.tail.tail.tail.tail ≠ .out) := fun e => HN.out (by simp [loopB, need, name, fail, Res.bind, ok1, hx1, hq7, hx70, hx77, hq88, hof, e])
          refine (ih.assign _ _ _ _ _ m112.ps m112.rem (m112.lv HL.out) hle HChc114.out).mono ?_
          rintro e w115 hpost
          rcases hc114 : pRun n (.assign lv) R.tail.tail.tail.tail with ⟨tshc114, Rhc114⟩ | ⟨en, p⟩ | _
          rotate_left
          · rw [hc114] at hpost
            have hb2 := Bad.trans m112.fr hpost
            obtain ⟨rfl, _⟩ := hpost
            exact ⟨rfl, PostN.bad hb2 (by simp [loopB, need, name, fail, Res.bind, ok1, hx1, hq7, hx70, hx77, hq88, hof, hc114])⟩
          · exact absurd hc114 HChc114.out
          rw [hc114] at hpost
          obtain ⟨shc114, khc114, thc114, rfl, rfl, mm⟩ := hpost
          have m116 := m112.call mm
          have Hhc114 := hidden hc114
          clear mm m112 hc114 HChc114
          go_wp2_with fail
          by_cases hx117 : isTok (hd Rhc114) [41] = true
          rotate_left
          · refine (need_no m116.ps m116.rem [41] (by simpa using hx117)).mono ?_
            rintro e wz hbad
            have hb2 := Bad.trans m116.fr hbad
            obtain ⟨rfl, _⟩ := hbad
            exact ⟨rfl, PostN.bad hb2 (by simp [loopB, need, name, fail, Res.bind, ok1, hx1, hq7, hx70, hx77, hq88, hof, Hhc114.out, hx117])⟩
          refine (need_yes m116.ps m116.rem [41] hx117).mono ?_
          rintro e w118 ⟨rfl, hp, hf⟩
          have m119 := m116.next hp hf
          clear hp hf m116
          go_wp2_with fail
          have HChc120 : Hid (pRun n (.body lv) Rhc114.tail ≠ .out) := fun e => HN.out (by simp [loopB, need, name, fail, Res.bind, ok1, hx1, hq7, hx70, hx77, hq88, hof, Hhc114.out, hx117, e])
          refine (ih.body _ _ _ _ _ m119.ps m119.rem (m119.lv HL.out) hle HChc120.out).mono ?_
          rintro e w121 hpost
          rcases hc120 : pRun n (.body lv) Rhc114.tail with ⟨tshc120, Rhc120⟩ | ⟨en, p⟩ | _
          rotate_left
          · rw [hc120] at hpost
            have hb2 := Bad.trans m119.fr hpost
            obtain ⟨rfl, _⟩ := hpost
            exact ⟨rfl, PostN.bad hb2 (by simp [loopB, need, name, fail, Res.bind, ok1, hx1, hq7, hx70, hx77, hq88, hof, Hhc114.out, hx117, hc120])⟩
          · exact absurd hc120 HChc120.out
          rw [hc120] at hpost
          obtain ⟨shc120, khc120, thc120, rfl, rfl, mm⟩ := hpost
          have m122 := m119.call mm
          have Hhc120 := hidden hc120
          clear mm m119 hc120 HChc120
          go_wp2_with fail
          have l123 : Lst c w (w121.alloc (.cells #[.int .i64 k83, .int .i64 khc114, .int .i64 khc120] 3)) _ (.slice (some ⟨w121.heap.size, 0, none⟩) 3 3) [k83, khc114, khc120] := Lst.made m122 [k83, khc114, khc120] (by simp)
          have m124 := m122.below ((Below.refl _ _).alloc (Nat.le_refl _) (.cells #[.int .i64 k83, .int .i64 khc114, .int .i64 khc120] 3))
          clear m122
          generalize w121.alloc (.cells #[.int .i64 k83, .int .i64 khc114, .int .i64 khc120] 3) = w125 at m124 l123 ⊢
          refine (node_mid m124 l123 h.room 10 pos []).mono ?_
          rintro e w126 ⟨s128, k127, rfl, m129, hp⟩
          clear hp m124
          go_wp2_with fail
          go_ret
          exact PostN.fin m129 (by simp [loopB, need, name, fail, Res.bind, ok1, hx1, hq7, hx70, hx77, hq88, hof, Hhc114.out, hx117, Hhc120.out])
        · have ht' : ((hd R.tail.tail.tail).text == [111, 102]) = false := by simpa using ht
          have hof : isOf (hd R.tail.tail.tail) = false := by simp only [isOf, ht', Bool.and_false]
          clear hk ht
          go_wp2_with fail
          refine (fail_calls m110.ps m110.rem 5).mono ?_
          rintro e wz hbad
          have hb2 := Bad.trans m110.fr hbad
          obtain ⟨rfl, _⟩ := hbad
          exact ⟨rfl, PostN.bad hb2 (by simp [loopB, need, name, fail, Res.bind, ok1, hx1, hq7, hx70, hx77, hq88, hof])⟩
      · have hk1 : (((hd R.tail.tail.tail).kind : Int) == 1) = false := by rw [show (((hd R.tail.tail.tail).kind : Int) == 1) = ((hd R.tail.tail.tail).kind == 1) from beqK _ 1]; simpa using hk
        have hk2 : ¬ ((hd R.tail.tail.tail).kind : Int) = 1 := by simp at hk; omega
        have hof : isOf (hd R.tail.tail.tail) = false := by simp [isOf]; intro h; exact absurd (by simpa using h) hk
        clear hk
        go_wp2_with fail
        refine (fail_calls m110.ps m110.rem 5).mono ?_
        rintro e wz hbad
        have hb2 := Bad.trans m110.fr hbad
        obtain ⟨rfl, _⟩ := hbad
        exact ⟨rfl, PostN.bad hb2 (by simp [loopB, need, name, fail, Res.bind, ok1, hx1, hq7, hx70, hx77, hq88, hof])⟩

end Go.Proofs.YtgdamcmfdhhheaaGreatDoor

/- Parts of the parser, walked: functions' rests, try. -/
namespace Go.Proofs.YtgdamcmfdhhheaaGreatDoor
open Go.RowKit Bf

set_option maxRecDepth 100000 in
set_option maxHeartbeats 1000000 in
theorem rest_step (n : Nat) (ih : All n) : CallL 96 [] .rest (n + 1) := by
  intro c w s R lv h hr hlv hle hne
  change Calls _ _ #[.pointer (some ⟨c.bp, 0, none⟩)] w (PostL c w s (restB (pRun n) lv R))
  have HN : Hid (restB (pRun n) lv R ≠ .out) := hne
  have HL : Hid (s.lv = (lv : Int)) := hlv
  clear hne hlv
  have m0 := Mid.start h hr
  clear hr
  obtain ⟨i0, hi0, hz0, hz1, hz2⟩ := info_parts Tryz.infoInt
  have hmf : ∀ (fn : Fn) (first cap : Array Value) (w : World), (Instr.makeFunc fn first cap).run Tryz.prog w = .ok (.func fn first cap) w := fun _ _ _ _ => rfl
  go_enter Tryz.func96, Tryz.ntmps96
  go_wp2_with fail
  have o1 := Mid.box m0
  have m1 := m0.below ((Below.refl _ _).alloc (Nat.le_refl _) (.cells #[.pointer (some ⟨c.bp, 0, none⟩)] 69))
  clear m0
  generalize w.alloc (.cells #[.pointer (some ⟨c.bp, 0, none⟩)] 69) = wb at o1 m1 ⊢
  by_cases hx1 : isTok (hd R) [40] = true
  rotate_left
  · refine (need_no m1.ps m1.rem [40] (by simpa using hx1)).mono ?_
    rintro e wz hbad
    have hb2 := Bad.trans m1.fr hbad
    obtain ⟨rfl, _⟩ := hbad
    exact ⟨rfl, PostL.bad hb2 (by simp [restB, need, name, fail, Res.bind, ok1, hx1])⟩
  refine (need_yes m1.ps m1.rem [40] hx1).mono ?_
  rintro e w2 ⟨rfl, hp, hf⟩
  have m3 := m1.next hp hf
  have o1' := o1.fr hf
  have o4 := o1'
  clear o1' o1
  clear hp hf m1
  have qb := (o4 rfl).1
  go_wp2_with fail
  clear qb
  have HChc5 : Hid (pRun n (.list lv [41] 64 .param 0) R.tail ≠ .out) := fun e => HN.out (by simp [restB, need, name, fail, Res.bind, ok1, hx1, e])
  refine (list_param n ih m3.ps m3.rem (m3.lv HL.out) hle [41] 64 (by decide) w.heap.size HChc5.out o4).mono ?_
  rintro e w6 hpost
  rcases hc5 : pRun n (.list lv [41] 64 .param 0) R.tail with ⟨tshc5, Rhc5⟩ | ⟨en, p⟩ | _
  rotate_left
  · rw [hc5] at hpost
    have hb2 := Bad.trans m3.fr hpost
    obtain ⟨rfl, _⟩ := hpost
    exact ⟨rfl, PostL.bad hb2 (by simp [restB, need, name, fail, Res.bind, ok1, hx1, hc5])⟩
  · exact absurd hc5 HChc5.out
  rw [hc5] at hpost
  obtain ⟨shc5, vhc5, khc5, rfl, mm, l7⟩ := hpost
  have m8 := m3.call mm
  have lt9 := o4.lt
  have o4' := o4.fr mm.fr
  have o10 := o4'
  clear o4' o4
  have nb11 : vhc5.ownBlock ≠ some w.heap.size := fun e => by have h1 := (l7.new _ e).2.1; have h2 := lt9; omega
  have l12 := l7.older m3.fr.size
  clear l7
  have Hhc5 := hidden hc5
  clear mm m3 hc5 HChc5
  have qb := (o10 rfl).1
  go_wp2_with fail
  clear qb
  have HChc13 : Hid (pRun n (.block lv) Rhc5 ≠ .out) := fun e => HN.out (by simp [restB, need, name, fail, Res.bind, ok1, hx1, Hhc5.out, e])
  refine (ih.block _ _ _ _ _ m8.ps m8.rem (m8.lv HL.out) hle HChc13.out).mono ?_
  rintro e w14 hpost
  rcases hc13 : pRun n (.block lv) Rhc5 with ⟨tshc13, Rhc13⟩ | ⟨en, p⟩ | _
  rotate_left
  · rw [hc13] at hpost
    have hb2 := Bad.trans m8.fr hpost
    obtain ⟨rfl, _⟩ := hpost
    exact ⟨rfl, PostL.bad hb2 (by simp [restB, need, name, fail, Res.bind, ok1, hx1, Hhc5.out, hc13])⟩
  · exact absurd hc13 HChc13.out
  rw [hc13] at hpost
  obtain ⟨shc13, khc13, thc13, rfl, rfl, mm⟩ := hpost
  have m15 := m8.call mm
  have l12' := l12.fr mm.fr
  have o10' := o10.fr mm.fr
  have l16 := l12'
  clear l12' l12
  have o17 := o10'
  clear o10' o10
  have Hhc13 := hidden hc13
  clear mm m8 hc13 HChc13
  have hbase := m15.ps.bp_lt
  have hkl := m15.kids_le
  have l0 : Lst c w w14 (shc13) (vhc5) khc5 := l16
  have hrow := l0.row
  go_wp2_with (at_builtin; refine wpList_append_lies _ rfl _ _ 30 rfl (c.bp + 1) 3 i0 _ 1 8 Tryz.underlying30 hi0 hz0 hz1 hz2 rfl (by decide) (vhc5) (khc5).length (ints khc5) rfl (World.ownsRow.alloc hrow _) ⟨w14.heap.size, 0, none⟩ 1 1 [.int .i64 khc13] rfl rfl ?c1 ?c2 ?c3 ?c4 ?c5 ?c6 (w14.heap.size + 1) ?c7 ?_)
  case c1 => exact World.news_of_block (cs := #[.int .i64 khc13]) (t := 3) (fr := (0, 0)) (heap_alloc_new w14 _)
  case c2 => simp [Value.oneCell']
  case c3 => decide
  case c4 => unfold maxLen; first | omega | (simp at hkl ⊢; done) | (simp at hkl ⊢; omega)
  case c5 => first | omega | (simp at hkl ⊢; done) | (simp at hkl ⊢; omega)
  case c6 => simp; omega
  case c7 => simp
  intro g18 cap19 w20 hown hgrow hat hlt
  have nb23 : (Value.slice (some ⟨g18, 0, none⟩) ((khc5).length + 1) cap19).ownBlock ≠ some w.heap.size := by
    intro e
    have e' : g18 = w.heap.size := by simpa [Value.ownBlock] using e
    rcases hat with h1 | h1
    · exact nb11 (h1.trans (by rw [e']))
    · have := o17.lt; omega
  have hgg24 := grownBy_trans (World.grownBy_alloc w14 _ none) hgrow
  have o17' := o17.grown hgg24 nb11
  obtain ⟨m21, l22⟩ := m15.append l0 (World.grownBy_alloc w14 _ none) hgrow hown (hat.imp id (by omega))
  clear hown hgrow hat hlt hrow l0 hbase hkl m15
  have g25 := o17'
  clear o17' o17
  have qb := (g25 rfl).1
  go_wp2_with fail
  clear qb
  go_ret
  exact PostL.fin m21 l22 (by simp [restB, need, name, fail, Res.bind, ok1, hx1, Hhc5.out, Hhc13.out])

set_option maxRecDepth 100000 in
set_option maxHeartbeats 4000000 in
theorem try_step (n : Nat) (ih : All n) (pos : Nat) : CallN 101 [.int .i64 pos] (fun lv => .try_ lv pos) (n + 1) := by
  intro c w s R lv h hr hlv hle hne
  change Calls _ _ #[.pointer (some ⟨c.bp, 0, none⟩), .int .i64 pos] w (PostN c w s (tryB (pRun n) lv pos R))
  have HN : Hid (tryB (pRun n) lv pos R ≠ .out) := hne
  have HL : Hid (s.lv = (lv : Int)) := hlv
  clear hne hlv
  have m0 := Mid.start h hr
  clear hr
  obtain ⟨i0, hi0, hz0, hz1, hz2⟩ := info_parts Tryz.infoInt
  go_enter Tryz.func101, Tryz.ntmps101
  go_wp2_with fail
  have HChc1 : Hid (pRun n (.block lv) R ≠ .out) := fun e => HN.out (by simp [tryB, need, name, fail, Res.bind, ok1, e])
  refine (ih.block _ _ _ _ _ m0.ps m0.rem (m0.lv HL.out) hle HChc1.out).mono ?_
  rintro e w2 hpost
  rcases hc1 : pRun n (.block lv) R with ⟨tshc1, Rhc1⟩ | ⟨en, p⟩ | _
  rotate_left
  · rw [hc1] at hpost
    have hb2 := Bad.trans m0.fr hpost
    obtain ⟨rfl, _⟩ := hpost
    exact ⟨rfl, PostN.bad hb2 (by simp [tryB, need, name, fail, Res.bind, ok1, hc1])⟩
  · exact absurd hc1 HChc1.out
  rw [hc1] at hpost
  obtain ⟨shc1, khc1, thc1, rfl, rfl, mm⟩ := hpost
  have m3 := m0.call mm
  have Hhc1 := hidden hc1
  clear mm m0 hc1 HChc1
  go_wp2_with fail
  have l4 : Lst c w (w2.alloc (.cells #[.int .i64 khc1] 3)) _ (.slice (some ⟨w2.heap.size, 0, none⟩) 1 1) [khc1] := Lst.made m3 [khc1] (by simp)
  have m5 := m3.below ((Below.refl _ _).alloc (Nat.le_refl _) (.cells #[.int .i64 khc1] 3))
  clear m3
  generalize w2.alloc (.cells #[.int .i64 khc1] 3) = w6 at m5 l4 ⊢
  have h0 := m5.ps.c0
  have h1 := m5.ps.c1
  have hbp := m5.ps.bp_lt
  have hbl := m5.ps.bl_lt
  have hi := m5.ps.i
  have hlen := m5.ps.len
  have t0 := m5.ps.t0 m5.rem
  have t1 := m5.ps.t1 m5.rem
  have t2 := m5.ps.t2 m5.rem
  have t3 := m5.ps.t3 m5.rem
  go_wp2
  go_region
  clear h0 h1 hbp hbl hi hlen t0 t1 t2 t3
  have l4' := l4.below ((Below.refl _ _).drew)
  have m7 := m5.below ((Below.refl _ _).drew)
  clear m5
  have l8 := l4'
  clear l4' l4
  generalize w6.drew = w9 at m7 l8 ⊢
  go_wp2_with fail
  by_cases hq10 : isTok (hd Rhc1) [99, 97, 116, 99, 104] = true
  · refine (take_yes m7.ps m7.rem [99, 97, 116, 99, 104] hq10).mono ?_
    rintro e w11 ⟨rfl, hp, hf⟩
    have m12 := m7.next hp hf
    have l8' := l8.fr hf
    have l13 := l8'
    clear l8' l8
    clear hp hf m7
    go_wp2_with fail
    have m14 := Mid.start m12.ps m12.rem
    have HL15 := hidden (m12.lv HL.out)
    by_cases hx16 : isTok (hd Rhc1.tail) [40] = true
    rotate_left
    · refine (need_no m14.ps m14.rem [40] (by simpa using hx16)).mono ?_
      rintro e wz hbad
      have hb2 := Bad.trans m12.fr (Bad.trans m14.fr hbad)
      obtain ⟨rfl, _⟩ := hbad
      exact ⟨rfl, PostN.bad hb2 (by simp [tryB, need, name, fail, Res.bind, ok1, Hhc1.out, hq10, hx16])⟩
    refine (need_yes m14.ps m14.rem [40] hx16).mono ?_
    rintro e w17 ⟨rfl, hp, hf⟩
    have m18 := m14.next hp hf
    have l13' := l13.fr hf
    have l19 := l13'
    clear l13' l13
    clear hp hf m14
    go_wp2_with fail
    by_cases hx20 : ((hd Rhc1.tail.tail).kind == 1) = true
    rotate_left
    · refine (name_no m18.ps m18.rem (by simpa using hx20)).mono ?_
      rintro e wz hbad
      have hb2 := Bad.trans m12.fr (Bad.trans m18.fr hbad)
      obtain ⟨rfl, _⟩ := hbad
      exact ⟨rfl, PostN.bad hb2 (by simp [tryB, need, name, fail, Res.bind, ok1, Hhc1.out, hq10, hx16, hx20])⟩
    refine (name_yes m18.ps m18.rem hx20).mono ?_
    rintro e w21 ⟨rfl, hp, hf⟩
    have m22 := m18.next hp hf
    have l19' := l19.fr hf
    have l23 := l19'
    clear l19' l19
    clear hp hf m18
    go_wp2_with fail
    by_cases hx24 : isTok (hd Rhc1.tail.tail.tail) [41] = true
    rotate_left
    · refine (need_no m22.ps m22.rem [41] (by simpa using hx24)).mono ?_
      rintro e wz hbad
      have hb2 := Bad.trans m12.fr (Bad.trans m22.fr hbad)
      obtain ⟨rfl, _⟩ := hbad
      exact ⟨rfl, PostN.bad hb2 (by simp [tryB, need, name, fail, Res.bind, ok1, Hhc1.out, hq10, hx16, hx20, hx24])⟩
    refine (need_yes m22.ps m22.rem [41] hx24).mono ?_
    rintro e w25 ⟨rfl, hp, hf⟩
    have m26 := m22.next hp hf
    have l23' := l23.fr hf
    have l27 := l23'
    clear l23' l23
    clear hp hf m22
    go_wp2_with fail
    have HChc28 : Hid (pRun n (.block lv) Rhc1.tail.tail.tail.tail ≠ .out) := fun e => HN.out (by simp [tryB, need, name, fail, Res.bind, ok1, Hhc1.out, hq10, hx16, hx20, hx24, e])
    refine (ih.block _ _ _ _ _ m26.ps m26.rem (m26.lv HL15.out) hle HChc28.out).mono ?_
    rintro e w29 hpost
    rcases hc28 : pRun n (.block lv) Rhc1.tail.tail.tail.tail with ⟨tshc28, Rhc28⟩ | ⟨en, p⟩ | _
    rotate_left
    · rw [hc28] at hpost
      have hb2 := Bad.trans m12.fr (Bad.trans m26.fr hpost)
      obtain ⟨rfl, _⟩ := hpost
      exact ⟨rfl, PostN.bad hb2 (by simp [tryB, need, name, fail, Res.bind, ok1, Hhc1.out, hq10, hx16, hx20, hx24, hc28])⟩
    · exact absurd hc28 HChc28.out
    rw [hc28] at hpost
    obtain ⟨shc28, khc28, thc28, rfl, rfl, mm⟩ := hpost
    have m30 := m26.call mm
    have l27' := l27.fr mm.fr
    have l31 := l27'
    clear l27' l27
    have Hhc28 := hidden hc28
    clear mm m26 hc28 HChc28
    go_wp2_with fail
    have nb33 : ∀ k, (.slice (some ⟨w2.heap.size, 0, none⟩) 1 1 : Value).ownBlock = some k → (Value.slice (some ⟨w29.heap.size, 0, none⟩) 1 1).ownBlock ≠ some k := fun k e => by have := (l31.row.lt k e).2; simp [Value.ownBlock]; omega
    have l32 : Lst c w11 (w29.alloc (.cells #[.int .i64 khc28] 3)) _ (.slice (some ⟨w29.heap.size, 0, none⟩) 1 1) [khc28] := Lst.made m30 [khc28] (by simp)
    have l31' := l31.below ((Below.refl _ _).alloc (Nat.le_refl _) (.cells #[.int .i64 khc28] 3))
    have m34 := m30.below ((Below.refl _ _).alloc (Nat.le_refl _) (.cells #[.int .i64 khc28] 3))
    clear m30
    have l35 := l31'
    clear l31' l31
    generalize w29.alloc (.cells #[.int .i64 khc28] 3) = w36 at m34 l32 l35 ⊢
    refine (node_mid m34 l32 m12.ps.room 17 (hd Rhc1).pos (hd Rhc1.tail.tail).text).mono ?_
    rintro e w37 ⟨s39, k38, rfl, m40, hp⟩
    have l35' := l35.kept hp nb33
    clear hp m34
    have l41 := l35'
    clear l35' l35
    have m42 := m12.call m40
    clear m12 m40
    have hbase := m42.ps.bp_lt
    have hkl := m42.kids_le
    have l0 : Lst c w w37 (s39) (.slice (some ⟨w2.heap.size, 0, none⟩) 1 1) [khc1] := l41
    have hrow := l0.row
    go_wp2_with (at_builtin; refine wpList_append_lies _ rfl _ _ 30 rfl (c.bp + 1) 3 i0 _ 1 8 Tryz.underlying30 hi0 hz0 hz1 hz2 rfl (by decide) (.slice (some ⟨w2.heap.size, 0, none⟩) 1 1) ([khc1]).length (ints [khc1]) rfl (World.ownsRow.alloc hrow _) ⟨w37.heap.size, 0, none⟩ 1 1 [.int .i64 k38] rfl rfl ?c1 ?c2 ?c3 ?c4 ?c5 ?c6 (w37.heap.size + 1) ?c7 ?_)
    case c1 => exact World.news_of_block (cs := #[.int .i64 k38]) (t := 3) (fr := (0, 0)) (heap_alloc_new w37 _)
    case c2 => simp [Value.oneCell']
    case c3 => decide
    case c4 => unfold maxLen; first | omega | (simp at hkl ⊢; done) | (simp at hkl ⊢; omega)
    case c5 => first | omega | (simp at hkl ⊢; done) | (simp at hkl ⊢; omega)
    case c6 => simp; omega
    case c7 => simp
    intro g43 cap44 w45 hown hgrow hat hlt
    have hgg48 := grownBy_trans (World.grownBy_alloc w37 _ none) hgrow
    obtain ⟨m46, l47⟩ := m42.append l0 (World.grownBy_alloc w37 _ none) hgrow hown (hat.imp id (by omega))
    clear hown hgrow hat hlt hrow l0 hbase hkl m42
    have h0 := m46.ps.c0
    have h1 := m46.ps.c1
    have hbp := m46.ps.bp_lt
    have hbl := m46.ps.bl_lt
    have hi := m46.ps.i
    have hlen := m46.ps.len
    have t0 := m46.ps.t0 m46.rem
    have t1 := m46.ps.t1 m46.rem
    have t2 := m46.ps.t2 m46.rem
    have t3 := m46.ps.t3 m46.rem
    go_wp2
    go_region
    clear h0 h1 hbp hbl hi hlen t0 t1 t2 t3
    have l47' := l47.below ((Below.refl _ _).drew)
    have m49 := m46.below ((Below.refl _ _).drew)
    clear m46
    have l50 := l47'
    clear l47' l47
    generalize w45.drew = w51 at m49 l50 ⊢
    go_wp2_with fail
    have m52 := Mid.start m49.ps m49.rem
    have HL53 := hidden (m49.lv HL.out)
    by_cases hq54 : isTok (hd Rhc28) [102, 105, 110, 97, 108, 108, 121] = true
    · refine (take_yes m52.ps m52.rem [102, 105, 110, 97, 108, 108, 121] hq54).mono ?_
      rintro e w55 ⟨rfl, hp, hf⟩
      have m56 := m52.next hp hf
      have l50' := l50.fr hf
      have l57 := l50'
      clear l50' l50
      clear hp hf m52
      go_wp2_with fail
      have HChc58 : Hid (pRun n (.block lv) Rhc28.tail ≠ .out) := fun e => HN.out (by simp [tryB, need, name, fail, Res.bind, ok1, Hhc1.out, hq10, hx16, hx20, hx24, Hhc28.out, hq54, e])
      refine (ih.block _ _ _ _ _ m56.ps m56.rem (m56.lv HL53.out) hle HChc58.out).mono ?_
      rintro e w59 hpost
      rcases hc58 : pRun n (.block lv) Rhc28.tail with ⟨tshc58, Rhc58⟩ | ⟨en, p⟩ | _
      rotate_left
      · rw [hc58] at hpost
        have hb2 := Bad.trans m49.fr (Bad.trans m56.fr hpost)
        obtain ⟨rfl, _⟩ := hpost
        exact ⟨rfl, PostN.bad hb2 (by simp [tryB, need, name, fail, Res.bind, ok1, Hhc1.out, hq10, hx16, hx20, hx24, Hhc28.out, hq54, hc58])⟩
      · exact absurd hc58 HChc58.out
      rw [hc58] at hpost
      obtain ⟨shc58, khc58, thc58, rfl, rfl, mm⟩ := hpost
      have m60 := m56.call mm
      have l57' := l57.fr mm.fr
      have l61 := l57'
      clear l57' l57
      have Hhc58 := hidden hc58
      clear mm m56 hc58 HChc58
      go_wp2_with fail
      have nb63 : ∀ k, (.slice (some ⟨g43, 0, none⟩) (([khc1]).length + 1) cap44 : Value).ownBlock = some k → (Value.slice (some ⟨w59.heap.size, 0, none⟩) 1 1).ownBlock ≠ some k := fun k e => by have := (l61.row.lt k e).2; simp [Value.ownBlock]; omega
      have l62 : Lst c w51 (w59.alloc (.cells #[.int .i64 khc58] 3)) _ (.slice (some ⟨w59.heap.size, 0, none⟩) 1 1) [khc58] := Lst.made m60 [khc58] (by simp)
      have l61' := l61.below ((Below.refl _ _).alloc (Nat.le_refl _) (.cells #[.int .i64 khc58] 3))
      have m64 := m60.below ((Below.refl _ _).alloc (Nat.le_refl _) (.cells #[.int .i64 khc58] 3))
      clear m60
      have l65 := l61'
      clear l61' l61
      generalize w59.alloc (.cells #[.int .i64 khc58] 3) = w66 at m64 l62 l65 ⊢
      refine (node_mid m64 l62 m49.ps.room 18 (hd Rhc28).pos []).mono ?_
      rintro e w67 ⟨s69, k68, rfl, m70, hp⟩
      have l65' := l65.kept hp nb63
      clear hp m64
      have l71 := l65'
      clear l65' l65
      have m72 := m49.call m70
      clear m49 m70
      have hbase := m72.ps.bp_lt
      have hkl := m72.kids_le
      have l0 : Lst c w w67 (s69) (.slice (some ⟨g43, 0, none⟩) (([khc1]).length + 1) cap44) [khc1, k38] := l71
      have hrow := l0.row
      go_wp2_with (at_builtin; refine wpList_append_lies _ rfl _ _ 30 rfl (c.bp + 1) 3 i0 _ 1 8 Tryz.underlying30 hi0 hz0 hz1 hz2 rfl (by decide) (.slice (some ⟨g43, 0, none⟩) (([khc1]).length + 1) cap44) ([khc1, k38]).length (ints [khc1, k38]) rfl (World.ownsRow.alloc hrow _) ⟨w67.heap.size, 0, none⟩ 1 1 [.int .i64 k68] rfl rfl ?c1 ?c2 ?c3 ?c4 ?c5 ?c6 (w67.heap.size + 1) ?c7 ?_)
      case c1 => exact World.news_of_block (cs := #[.int .i64 k68]) (t := 3) (fr := (0, 0)) (heap_alloc_new w67 _)
      case c2 => simp [Value.oneCell']
      case c3 => decide
      case c4 => unfold maxLen; first | omega | (simp at hkl ⊢; done) | (simp at hkl ⊢; omega)
      case c5 => first | omega | (simp at hkl ⊢; done) | (simp at hkl ⊢; omega)
      case c6 => simp; omega
      case c7 => simp
      intro g73 cap74 w75 hown hgrow hat hlt
      have hgg78 := grownBy_trans (World.grownBy_alloc w67 _ none) hgrow
      obtain ⟨m76, l77⟩ := m72.append l0 (World.grownBy_alloc w67 _ none) hgrow hown (hat.imp id (by omega))
      clear hown hgrow hat hlt hrow l0 hbase hkl m72
      go_wp2_with fail
      refine (node_mid m76 l77 h.room 16 pos []).mono ?_
      rintro e w79 ⟨s81, k80, rfl, m82, hp⟩
      clear hp m76
      go_wp2_with fail
      go_ret
      exact PostN.fin m82 (by simp [tryB, need, name, fail, Res.bind, ok1, Hhc1.out, hq10, hx16, hx20, hx24, Hhc28.out, hq54, Hhc58.out])
    · refine (take_no m52.ps m52.rem [102, 105, 110, 97, 108, 108, 121] (by simpa using hq54)).mono ?_
      rintro e w83 ⟨rfl, hb⟩
      have l50' := l50.below hb
      have m84 := m52.below hb
      clear m52
      have l85 := l50'
      clear l50' l50
      clear hb
      go_wp2_with fail
      have m86 := m49.call m84
      clear m49 m84
      refine (node_mid m86 l85 h.room 16 pos []).mono ?_
      rintro e w87 ⟨s89, k88, rfl, m90, hp⟩
      clear hp m86
      go_wp2_with fail
      go_ret
      exact PostN.fin m90 (by simp [tryB, need, name, fail, Res.bind, ok1, Hhc1.out, hq10, hx16, hx20, hx24, Hhc28.out, hq54])
  · refine (take_no m7.ps m7.rem [99, 97, 116, 99, 104] (by simpa using hq10)).mono ?_
    rintro e w91 ⟨rfl, hb⟩
    have l8' := l8.below hb
    have m92 := m7.below hb
    clear m7
    have l93 := l8'
    clear l8' l8
    clear hb
    go_wp2_with fail
    have h0 := m92.ps.c0
    have h1 := m92.ps.c1
    have hbp := m92.ps.bp_lt
    have hbl := m92.ps.bl_lt
    have hi := m92.ps.i
    have hlen := m92.ps.len
    have t0 := m92.ps.t0 m92.rem
    have t1 := m92.ps.t1 m92.rem
    have t2 := m92.ps.t2 m92.rem
    have t3 := m92.ps.t3 m92.rem
    go_region
    clear h0 h1 hbp hbl hi hlen t0 t1 t2 t3
    have l93' := l93.below ((Below.refl _ _).drew)
    have m94 := m92.below ((Below.refl _ _).drew)
    clear m92
    have l95 := l93'
    clear l93' l93
    generalize w91.drew = w96 at m94 l95 ⊢
    go_wp2_with fail
    have m97 := Mid.start m94.ps m94.rem
    have HL98 := hidden (m94.lv HL.out)
    by_cases hq99 : isTok (hd Rhc1) [102, 105, 110, 97, 108, 108, 121] = true
    · refine (take_yes m97.ps m97.rem [102, 105, 110, 97, 108, 108, 121] hq99).mono ?_
      rintro e w100 ⟨rfl, hp, hf⟩
      have m101 := m97.next hp hf
      have l95' := l95.fr hf
      have l102 := l95'
      clear l95' l95
      clear hp hf m97
      go_wp2_with fail
      have HChc103 : Hid (pRun n (.block lv) Rhc1.tail ≠ .out) := fun e => HN.out (by simp [tryB, need, name, fail, Res.bind, ok1, Hhc1.out, hq10, hq99, e])
      refine (ih.block _ _ _ _ _ m101.ps m101.rem (m101.lv HL98.out) hle HChc103.out).mono ?_
      rintro e w104 hpost
      rcases hc103 : pRun n (.block lv) Rhc1.tail with ⟨tshc103, Rhc103⟩ | ⟨en, p⟩ | _
      rotate_left
      · rw [hc103] at hpost
        have hb2 := Bad.trans m94.fr (Bad.trans m101.fr hpost)
        obtain ⟨rfl, _⟩ := hpost
        exact ⟨rfl, PostN.bad hb2 (by simp [tryB, need, name, fail, Res.bind, ok1, Hhc1.out, hq10, hq99, hc103])⟩
      · exact absurd hc103 HChc103.out
      rw [hc103] at hpost
      obtain ⟨shc103, khc103, thc103, rfl, rfl, mm⟩ := hpost
      have m105 := m101.call mm
      have l102' := l102.fr mm.fr
      have l106 := l102'
      clear l102' l102
      have Hhc103 := hidden hc103
      clear mm m101 hc103 HChc103
      go_wp2_with fail
      have nb108 : ∀ k, (.slice (some ⟨w2.heap.size, 0, none⟩) 1 1 : Value).ownBlock = some k → (Value.slice (some ⟨w104.heap.size, 0, none⟩) 1 1).ownBlock ≠ some k := fun k e => by have := (l106.row.lt k e).2; simp [Value.ownBlock]; omega
      have l107 : Lst c w96 (w104.alloc (.cells #[.int .i64 khc103] 3)) _ (.slice (some ⟨w104.heap.size, 0, none⟩) 1 1) [khc103] := Lst.made m105 [khc103] (by simp)
      have l106' := l106.below ((Below.refl _ _).alloc (Nat.le_refl _) (.cells #[.int .i64 khc103] 3))
      have m109 := m105.below ((Below.refl _ _).alloc (Nat.le_refl _) (.cells #[.int .i64 khc103] 3))
      clear m105
      have l110 := l106'
      clear l106' l106
      generalize w104.alloc (.cells #[.int .i64 khc103] 3) = w111 at m109 l107 l110 ⊢
      refine (node_mid m109 l107 m94.ps.room 18 (hd Rhc1).pos []).mono ?_
      rintro e w112 ⟨s114, k113, rfl, m115, hp⟩
      have l110' := l110.kept hp nb108
      clear hp m109
      have l116 := l110'
      clear l110' l110
      have m117 := m94.call m115
      clear m94 m115
      have hbase := m117.ps.bp_lt
      have hkl := m117.kids_le
      have l0 : Lst c w w112 (s114) (.slice (some ⟨w2.heap.size, 0, none⟩) 1 1) [khc1] := l116
      have hrow := l0.row
      go_wp2_with (at_builtin; refine wpList_append_lies _ rfl _ _ 30 rfl (c.bp + 1) 3 i0 _ 1 8 Tryz.underlying30 hi0 hz0 hz1 hz2 rfl (by decide) (.slice (some ⟨w2.heap.size, 0, none⟩) 1 1) ([khc1]).length (ints [khc1]) rfl (World.ownsRow.alloc hrow _) ⟨w112.heap.size, 0, none⟩ 1 1 [.int .i64 k113] rfl rfl ?c1 ?c2 ?c3 ?c4 ?c5 ?c6 (w112.heap.size + 1) ?c7 ?_)
      case c1 => exact World.news_of_block (cs := #[.int .i64 k113]) (t := 3) (fr := (0, 0)) (heap_alloc_new w112 _)
      case c2 => simp [Value.oneCell']
      case c3 => decide
      case c4 => unfold maxLen; first | omega | (simp at hkl ⊢; done) | (simp at hkl ⊢; omega)
      case c5 => first | omega | (simp at hkl ⊢; done) | (simp at hkl ⊢; omega)
      case c6 => simp; omega
      case c7 => simp
      intro g118 cap119 w120 hown hgrow hat hlt
      have hgg123 := grownBy_trans (World.grownBy_alloc w112 _ none) hgrow
      obtain ⟨m121, l122⟩ := m117.append l0 (World.grownBy_alloc w112 _ none) hgrow hown (hat.imp id (by omega))
      clear hown hgrow hat hlt hrow l0 hbase hkl m117
      go_wp2_with fail
      refine (node_mid m121 l122 h.room 16 pos []).mono ?_
      rintro e w124 ⟨s126, k125, rfl, m127, hp⟩
      clear hp m121
      go_wp2_with fail
      go_ret
      exact PostN.fin m127 (by simp [tryB, need, name, fail, Res.bind, ok1, Hhc1.out, hq10, hq99, Hhc103.out])
    · refine (take_no m97.ps m97.rem [102, 105, 110, 97, 108, 108, 121] (by simpa using hq99)).mono ?_
      rintro e w128 ⟨rfl, hb⟩
      have l95' := l95.below hb
      have m129 := m97.below hb
      clear m97
      have l130 := l95'
      clear l95' l95
      clear hb
      go_wp2_with fail
      have m131 := m94.call m129
      clear m94 m129
      refine (fail_calls m131.ps m131.rem 5).mono ?_
      rintro e wz hbad
      have hb2 := Bad.trans m131.fr hbad
      obtain ⟨rfl, _⟩ := hbad
      exact ⟨rfl, PostN.bad hb2 (by simp [tryB, need, name, fail, Res.bind, ok1, Hhc1.out, hq10, hq99])⟩

end Go.Proofs.YtgdamcmfdhhheaaGreatDoor

/- A key, walked. -/
namespace Go.Proofs.YtgdamcmfdhhheaaGreatDoor
open Go.RowKit Bf

set_option maxRecDepth 100000 in
set_option maxHeartbeats 4000000 in
theorem key_step (n : Nat) (ih : All n) : CallN 156 [] .key (n + 1) := by
  intro c w s R lv h hr hlv hle hne
  change Calls _ _ #[.pointer (some ⟨c.bp, 0, none⟩)] w (PostN c w s (keyB (pRun n) lv R))
  have HN : Hid (keyB (pRun n) lv R ≠ .out) := hne
  have HL : Hid (s.lv = (lv : Int)) := hlv
  clear hne hlv
  have m0 := Mid.start h hr
  clear hr
  go_enter Tryz.func156, Tryz.ntmps156
  have h0 := m0.ps.c0
  have h1 := m0.ps.c1
  have hbp := m0.ps.bp_lt
  have hbl := m0.ps.bl_lt
  have hi := m0.ps.i
  have hlen := m0.ps.len
  have t0 := m0.ps.t0 m0.rem
  have t1 := m0.ps.t1 m0.rem
  have t2 := m0.ps.t2 m0.rem
  have t3 := m0.ps.t3 m0.rem
  go_wp2
  go_region
  clear h0 h1 hbp hbl hi hlen t0 t1 t2 t3
  obtain ⟨m2, g1⟩ := m0.held
  clear m0
  change Mid c w s ((w.alloc (.cells #[.int .u8 (hd R).kind, .int .i64 (hd R).pos, .string ⟨(hd R).text.toArray⟩, .float .f64 (hd R).num] 59)).drew) _ _ _ _ _ at m2
  change Held c ((w.alloc (.cells #[.int .u8 (hd R).kind, .int .i64 (hd R).pos, .string ⟨(hd R).text.toArray⟩, .float .f64 (hd R).num] 59)).drew) _ _ _ at g1
  generalize ((w.alloc (.cells #[.int .u8 (hd R).kind, .int .i64 (hd R).pos, .string ⟨(hd R).text.toArray⟩, .float .f64 (hd R).num] 59)).drew) = w3 at m2 g1 ⊢
  by_cases hk4 : ((hd R).kind == 1) = true
  · have hk4a : (((hd R).kind : Int) == 1) = true := by rw [← hk4]; exact beqK _ 1
    have hk4b : ((hd R).kind : Int) = 1 := by simp at hk4; omega
    have zt0 := g1.c0
    have zt1 := g1.c1
    have zt2 := g1.c2
    have ztb : ¬ w.heap.size = c.bp := fun e => g1.free (.inl e)
    have ztc : ¬ c.bp = w.heap.size := fun e => g1.free (.inl e.symm)
    have hmore := m2.ps.more m2.rem (by simp at hk4; omega)
    have h1 := m2.ps.c1
    have fz1 := m2.ps.fz 1
    have hlen := m2.ps.len
    have hnx := m2.ps.next hmore
    have m5 := m2.next hnx.1 hnx.2
    have g1' := g1.fr hnx.2
    have g6 := g1'
    clear g1' g1
    go_wp2_with fail
    clear h1 fz1 hlen hnx hmore zt0 zt1 zt2 ztb ztc m2
    generalize (w3.setCell ⟨c.bp, 1, none⟩ (.int .i64 (((s).i : Int) + 1))) = w7 at m5 g6 ⊢
    refine (node_mid m5 Lst.nil h.room 21 (hd R).pos (hd R).text).mono ?_
    rintro e w8 ⟨s10, k9, rfl, m11, hp⟩
    have g6' := g6.kept hp (by simp [Value.ownBlock])
    clear hp m5
    have g12 := g6'
    clear g6' g6
    have zt0 := g12.c0
    have zt1 := g12.c1
    have zt2 := g12.c2
    have ztb : ¬ w.heap.size = c.bp := fun e => g12.free (.inl e)
    have ztc : ¬ c.bp = w.heap.size := fun e => g12.free (.inl e.symm)
    go_wp2_with fail
    clear zt0 zt1 zt2 ztb ztc
    go_ret
    exact PostN.fin m11 (by simp [keyB, need, name, fail, Res.bind, ok1, hk4])
  · have hk4n : ((hd R).kind == 1) = false := by simpa using hk4
    have hk4a : (((hd R).kind : Int) == 1) = false := by rw [← hk4n]; exact beqK _ 1
    have hk4b : ¬ ((hd R).kind : Int) = 1 := by simp at hk4; omega
    clear hk4
    by_cases hk13 : ((hd R).kind == 2) = true
    · have hk13a : (((hd R).kind : Int) == 2) = true := by rw [← hk13]; exact beqK _ 2
      have hk13b : ((hd R).kind : Int) = 2 := by simp at hk13; omega
      have zt0 := g1.c0
      have zt1 := g1.c1
      have zt2 := g1.c2
      have ztb : ¬ w.heap.size = c.bp := fun e => g1.free (.inl e)
      have ztc : ¬ c.bp = w.heap.size := fun e => g1.free (.inl e.symm)
      have hmore := m2.ps.more m2.rem (by simp at hk13; omega)
      have h1 := m2.ps.c1
      have fz1 := m2.ps.fz 1
      have hlen := m2.ps.len
      have hnx := m2.ps.next hmore
      have m14 := m2.next hnx.1 hnx.2
      have g1' := g1.fr hnx.2
      have g15 := g1'
      clear g1' g1
      go_wp2_with fail
      clear h1 fz1 hlen hnx hmore zt0 zt1 zt2 ztb ztc m2
      generalize (w3.setCell ⟨c.bp, 1, none⟩ (.int .i64 (((s).i : Int) + 1))) = w16 at m14 g15 ⊢
      refine (node_mid m14 Lst.nil h.room 21 (hd R).pos (hd R).text).mono ?_
      rintro e w17 ⟨s19, k18, rfl, m20, hp⟩
      have g15' := g15.kept hp (by simp [Value.ownBlock])
      clear hp m14
      have g21 := g15'
      clear g15' g15
      have zt0 := g21.c0
      have zt1 := g21.c1
      have zt2 := g21.c2
      have ztb : ¬ w.heap.size = c.bp := fun e => g21.free (.inl e)
      have ztc : ¬ c.bp = w.heap.size := fun e => g21.free (.inl e.symm)
      go_wp2_with fail
      clear zt0 zt1 zt2 ztb ztc
      go_ret
      exact PostN.fin m20 (by simp [keyB, need, name, fail, Res.bind, ok1, hk4n, hk13])
    · have hk13n : ((hd R).kind == 2) = false := by simpa using hk13
      have hk13a : (((hd R).kind : Int) == 2) = false := by rw [← hk13n]; exact beqK _ 2
      have hk13b : ¬ ((hd R).kind : Int) = 2 := by simp at hk13; omega
      clear hk13
      by_cases hk22 : ((hd R).kind == 4) = true
      · have hk22a : (((hd R).kind : Int) == 4) = true := by rw [← hk22]; exact beqK _ 4
        have hk22b : ((hd R).kind : Int) = 4 := by simp at hk22; omega
        have zt0 := g1.c0
        have zt1 := g1.c1
        have zt2 := g1.c2
        have ztb : ¬ w.heap.size = c.bp := fun e => g1.free (.inl e)
        have ztc : ¬ c.bp = w.heap.size := fun e => g1.free (.inl e.symm)
        have hmore := m2.ps.more m2.rem (by simp at hk22; omega)
        have h1 := m2.ps.c1
        have fz1 := m2.ps.fz 1
        have hlen := m2.ps.len
        have hnx := m2.ps.next hmore
        have m23 := m2.next hnx.1 hnx.2
        have g1' := g1.fr hnx.2
        have g24 := g1'
        clear g1' g1
        go_wp2_with fail
        clear h1 fz1 hlen hnx hmore zt0 zt1 zt2 ztb ztc m2
        generalize (w3.setCell ⟨c.bp, 1, none⟩ (.int .i64 (((s).i : Int) + 1))) = w25 at m23 g24 ⊢
        refine (node_mid m23 Lst.nil h.room 21 (hd R).pos (hd R).text).mono ?_
        rintro e w26 ⟨s28, k27, rfl, m29, hp⟩
        have g24' := g24.kept hp (by simp [Value.ownBlock])
        clear hp m23
        have g30 := g24'
        clear g24' g24
        have zt0 := g30.c0
        have zt1 := g30.c1
        have zt2 := g30.c2
        have ztb : ¬ w.heap.size = c.bp := fun e => g30.free (.inl e)
        have ztc : ¬ c.bp = w.heap.size := fun e => g30.free (.inl e.symm)
        go_wp2_with fail
        clear zt0 zt1 zt2 ztb ztc
        go_ret
        exact PostN.fin m29 (by simp [keyB, need, name, fail, Res.bind, ok1, hk4n, hk13n, hk22])
      · have hk22n : ((hd R).kind == 4) = false := by simpa using hk22
        have hk22a : (((hd R).kind : Int) == 4) = false := by rw [← hk22n]; exact beqK _ 4
        have hk22b : ¬ ((hd R).kind : Int) = 4 := by simp at hk22; omega
        clear hk22
        by_cases hk31 : ((hd R).kind == 3) = true
        · have hk31a : (((hd R).kind : Int) == 3) = true := by rw [← hk31]; exact beqK _ 3
          have hk31b : ((hd R).kind : Int) = 3 := by simp at hk31; omega
          have zt0 := g1.c0
          have zt1 := g1.c1
          have zt2 := g1.c2
          have ztb : ¬ w.heap.size = c.bp := fun e => g1.free (.inl e)
          have ztc : ¬ c.bp = w.heap.size := fun e => g1.free (.inl e.symm)
          go_wp2_with fail
          clear zt0 zt1 zt2 ztb ztc
          have HChc32 : Hid (pRun n (.primary lv) R ≠ .out) := fun e => HN.out (by simp [keyB, need, name, fail, Res.bind, ok1, hk4n, hk13n, hk22n, hk31, e])
          refine (ih.primary _ _ _ _ _ m2.ps m2.rem (m2.lv HL.out) hle HChc32.out).mono ?_
          rintro e w33 hpost
          rcases hc32 : pRun n (.primary lv) R with ⟨tshc32, Rhc32⟩ | ⟨en, p⟩ | _
          rotate_left
          · rw [hc32] at hpost
            have hb2 := Bad.trans m2.fr hpost
            obtain ⟨rfl, _⟩ := hpost
            exact ⟨rfl, PostN.bad hb2 (by simp [keyB, need, name, fail, Res.bind, ok1, hk4n, hk13n, hk22n, hk31, hc32])⟩
          · exact absurd hc32 HChc32.out
          rw [hc32] at hpost
          obtain ⟨shc32, khc32, thc32, rfl, rfl, mm⟩ := hpost
          have m34 := m2.call mm
          have g1' := g1.fr mm.fr
          have g35 := g1'
          clear g1' g1
          have Hhc32 := hidden hc32
          clear mm m2 hc32 HChc32
          have zt0 := g35.c0
          have zt1 := g35.c1
          have zt2 := g35.c2
          have ztb : ¬ w.heap.size = c.bp := fun e => g35.free (.inl e)
          have ztc : ¬ c.bp = w.heap.size := fun e => g35.free (.inl e.symm)
          go_wp2_with fail
          clear zt0 zt1 zt2 ztb ztc
          go_ret
          exact PostN.fin m34 (by simp [keyB, need, name, fail, Res.bind, ok1, hk4n, hk13n, hk22n, hk31, Hhc32.out])
        · have hk31n : ((hd R).kind == 3) = false := by simpa using hk31
          have hk31a : (((hd R).kind : Int) == 3) = false := by rw [← hk31n]; exact beqK _ 3
          have hk31b : ¬ ((hd R).kind : Int) = 3 := by simp at hk31; omega
          clear hk31
          have zt0 := g1.c0
          have zt1 := g1.c1
          have zt2 := g1.c2
          have ztb : ¬ w.heap.size = c.bp := fun e => g1.free (.inl e)
          have ztc : ¬ c.bp = w.heap.size := fun e => g1.free (.inl e.symm)
          go_wp2_with fail
          clear zt0 zt1 zt2 ztb ztc
          by_cases hq36 : isTok (hd R) [91] = true
          · refine (take_yes m2.ps m2.rem [91] hq36).mono ?_
            rintro e w37 ⟨rfl, hp, hf⟩
            have m38 := m2.next hp hf
            have g1' := g1.fr hf
            have g39 := g1'
            clear g1' g1
            clear hp hf m2
            have zt0 := g39.c0
            have zt1 := g39.c1
            have zt2 := g39.c2
            have ztb : ¬ w.heap.size = c.bp := fun e => g39.free (.inl e)
            have ztc : ¬ c.bp = w.heap.size := fun e => g39.free (.inl e.symm)
            go_wp2_with fail
            clear zt0 zt1 zt2 ztb ztc
            have HChc40 : Hid (pRun n (.assign lv) R.tail ≠ .out) := fun e => HN.out (by simp [keyB, need, name, fail, Res.bind, ok1, hk4n, hk13n, hk22n, hk31n, hq36, e])
            refine (ih.assign _ _ _ _ _ m38.ps m38.rem (m38.lv HL.out) hle HChc40.out).mono ?_
            rintro e w41 hpost
            rcases hc40 : pRun n (.assign lv) R.tail with ⟨tshc40, Rhc40⟩ | ⟨en, p⟩ | _
            rotate_left
            · rw [hc40] at hpost
              have hb2 := Bad.trans m38.fr hpost
              obtain ⟨rfl, _⟩ := hpost
              exact ⟨rfl, PostN.bad hb2 (by simp [keyB, need, name, fail, Res.bind, ok1, hk4n, hk13n, hk22n, hk31n, hq36, hc40])⟩
            · exact absurd hc40 HChc40.out
            rw [hc40] at hpost
            obtain ⟨shc40, khc40, thc40, rfl, rfl, mm⟩ := hpost
            have m42 := m38.call mm
            have g39' := g39.fr mm.fr
            have g43 := g39'
            clear g39' g39
            have Hhc40 := hidden hc40
            clear mm m38 hc40 HChc40
            have zt0 := g43.c0
            have zt1 := g43.c1
            have zt2 := g43.c2
            have ztb : ¬ w.heap.size = c.bp := fun e => g43.free (.inl e)
            have ztc : ¬ c.bp = w.heap.size := fun e => g43.free (.inl e.symm)
            go_wp2_with fail
            clear zt0 zt1 zt2 ztb ztc
            by_cases hx44 : isTok (hd Rhc40) [93] = true
            rotate_left
            · refine (need_no m42.ps m42.rem [93] (by simpa using hx44)).mono ?_
              rintro e wz hbad
              have hb2 := Bad.trans m42.fr hbad
              obtain ⟨rfl, _⟩ := hbad
              exact ⟨rfl, PostN.bad hb2 (by simp [keyB, need, name, fail, Res.bind, ok1, hk4n, hk13n, hk22n, hk31n, hq36, Hhc40.out, hx44])⟩
            refine (need_yes m42.ps m42.rem [93] hx44).mono ?_
            rintro e w45 ⟨rfl, hp, hf⟩
            have m46 := m42.next hp hf
            have g43' := g43.fr hf
            have g47 := g43'
            clear g43' g43
            clear hp hf m42
            have zt0 := g47.c0
            have zt1 := g47.c1
            have zt2 := g47.c2
            have ztb : ¬ w.heap.size = c.bp := fun e => g47.free (.inl e)
            have ztc : ¬ c.bp = w.heap.size := fun e => g47.free (.inl e.symm)
            go_wp2_with fail
            clear zt0 zt1 zt2 ztb ztc
            have nb49 : (Value.slice (some ⟨w45.heap.size, 0, none⟩) 1 1).ownBlock ≠ some w.heap.size := by have := g47.lt; simp [Value.ownBlock]; omega
            have l48 : Lst c w (w45.alloc (.cells #[.int .i64 khc40] 3)) _ (.slice (some ⟨w45.heap.size, 0, none⟩) 1 1) [khc40] := Lst.made m46 [khc40] (by simp)
            have g47' := g47.below ((Below.refl _ _).alloc (Nat.le_refl _) (.cells #[.int .i64 khc40] 3))
            have m50 := m46.below ((Below.refl _ _).alloc (Nat.le_refl _) (.cells #[.int .i64 khc40] 3))
            clear m46
            have g51 := g47'
            clear g47' g47
            generalize w45.alloc (.cells #[.int .i64 khc40] 3) = w52 at m50 l48 g51 ⊢
            refine (node_mid m50 l48 h.room 32 (hd R).pos []).mono ?_
            rintro e w53 ⟨s55, k54, rfl, m56, hp⟩
            have g51' := g51.kept hp nb49
            clear hp m50
            have g57 := g51'
            clear g51' g51
            have zt0 := g57.c0
            have zt1 := g57.c1
            have zt2 := g57.c2
            have ztb : ¬ w.heap.size = c.bp := fun e => g57.free (.inl e)
            have ztc : ¬ c.bp = w.heap.size := fun e => g57.free (.inl e.symm)
            go_wp2_with fail
            clear zt0 zt1 zt2 ztb ztc
            go_ret
            exact PostN.fin m56 (by simp [keyB, need, name, fail, Res.bind, ok1, hk4n, hk13n, hk22n, hk31n, hq36, Hhc40.out, hx44])
          · refine (take_no m2.ps m2.rem [91] (by simpa using hq36)).mono ?_
            rintro e w58 ⟨rfl, hb⟩
            have g1' := g1.below hb
            have m59 := m2.below hb
            clear m2
            have g60 := g1'
            clear g1' g1
            clear hb
            have zt0 := g60.c0
            have zt1 := g60.c1
            have zt2 := g60.c2
            have ztb : ¬ w.heap.size = c.bp := fun e => g60.free (.inl e)
            have ztc : ¬ c.bp = w.heap.size := fun e => g60.free (.inl e.symm)
            go_wp2_with fail
            clear zt0 zt1 zt2 ztb ztc
            refine (fail_calls m59.ps m59.rem 5).mono ?_
            rintro e wz hbad
            have hb2 := Bad.trans m59.fr hbad
            obtain ⟨rfl, _⟩ := hbad
            exact ⟨rfl, PostN.bad hb2 (by simp [keyB, need, name, fail, Res.bind, ok1, hk4n, hk13n, hk22n, hk31n, hq36])⟩

end Go.Proofs.YtgdamcmfdhhheaaGreatDoor

/- The words that are values, walked. -/
namespace Go.Proofs.YtgdamcmfdhhheaaGreatDoor
open Go.RowKit Bf

set_option maxHeartbeats 1000000 in
theorem simple_calls (x : List UInt8) (w : World) :
    Calls Tryz.prog 154 #[.string ⟨x.toArray⟩] w fun e w' => e = .returned (.int .u8 (simple x)) ∧ w = w' := by
  by_cases h1 : (x == [116, 114, 117, 101]) = true
  · rw [show simple x = 22 from by simp [simple, h1]]
    go_enter Tryz.func154, Tryz.ntmps154
    go_wp2
    go_ret
    exact ⟨rfl, rfl⟩
  have h1' : (x == [116, 114, 117, 101]) = false := by simpa using h1
  clear h1
  by_cases h2 : (x == [102, 97, 108, 115, 101]) = true
  · rw [show simple x = 23 from by simp [simple, h1', h2]]
    go_enter Tryz.func154, Tryz.ntmps154
    go_wp2
    go_ret
    exact ⟨rfl, rfl⟩
  have h2' : (x == [102, 97, 108, 115, 101]) = false := by simpa using h2
  clear h2
  by_cases h3 : (x == [110, 117, 108, 108]) = true
  · rw [show simple x = 24 from by simp [simple, h1', h2', h3]]
    go_enter Tryz.func154, Tryz.ntmps154
    go_wp2
    go_ret
    exact ⟨rfl, rfl⟩
  have h3' : (x == [110, 117, 108, 108]) = false := by simpa using h3
  clear h3
  by_cases h4 : (x == [116, 104, 105, 115]) = true
  · rw [show simple x = 25 from by simp [simple, h1', h2', h3', h4]]
    go_enter Tryz.func154, Tryz.ntmps154
    go_wp2
    go_ret
    exact ⟨rfl, rfl⟩
  have h4' : (x == [116, 104, 105, 115]) = false := by simpa using h4
  clear h4
  rw [show simple x = 0 from by simp [simple, h1', h2', h3', h4']]
  go_enter Tryz.func154, Tryz.ntmps154
  go_wp2
  go_ret
  exact ⟨rfl, rfl⟩

theorem simple_le (x : List UInt8) : simple x ≤ 25 := by
  unfold simple
  repeat' split
  all_goals omega

end Go.Proofs.YtgdamcmfdhhheaaGreatDoor
