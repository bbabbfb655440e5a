/- A primary, walked. -/
import Derived.Test.YtgdamcmfdhhheaaGreatDoorMA3
import Derived.Deep.LoopGhost
import Derived.Deep.RegionHeld2
set_option linter.all false

namespace Go.Proofs.YtgdamcmfdhhheaaGreatDoor
open Go.RowKit Bf

set_option maxRecDepth 100000 in
set_option maxHeartbeats 8000000 in
theorem primary_step (n : Nat) (ih : All n) : CallN 153 [] .primary (n + 1) := by
  intro c w s R lv h hr hlv hle hne
  change Calls _ _ #[.pointer (some ⟨c.bp, 0, none⟩)] w (PostN c w s (primaryB (pRun n) lv R))
  have HN : Hid (primaryB (pRun n) lv R ≠ .out) := hne
  have HL : Hid (s.lv = (lv : Int)) := hlv
  clear hne hlv
  have m0 := Mid.start h hr
  clear hr
  have hmf : ∀ (fn : Fn) (first cap : Array Value) (w : World), (Instr.makeFunc fn first cap).run Tryz.prog w = .ok (.func fn first cap) w := fun _ _ _ _ => rfl
  go_enter Tryz.func153, Tryz.ntmps153
  have h0 := m0.ps.c0
  have h1 := m0.ps.c1
  have hbp := m0.ps.bp_lt
  have hbl := m0.ps.bl_lt
  have hi := m0.ps.i
  have hlen := m0.ps.len
  have t0 := m0.ps.t0 m0.rem
  have t1 := m0.ps.t1 m0.rem
  have t2 := m0.ps.t2 m0.rem
  have t3 := m0.ps.t3 m0.rem
  go_wp2
  go_region
  clear h0 h1 hbp hbl hi hlen t0 t1 t2 t3
  obtain ⟨m2, g1⟩ := m0.held
  clear m0
  change Mid c w s ((w.alloc (.cells #[.int .u8 (hd R).kind, .int .i64 (hd R).pos, .string ⟨(hd R).text.toArray⟩, .float .f64 (hd R).num] 59)).drew) _ _ _ _ _ at m2
  change Held c ((w.alloc (.cells #[.int .u8 (hd R).kind, .int .i64 (hd R).pos, .string ⟨(hd R).text.toArray⟩, .float .f64 (hd R).num] 59)).drew) _ _ _ at g1
  generalize ((w.alloc (.cells #[.int .u8 (hd R).kind, .int .i64 (hd R).pos, .string ⟨(hd R).text.toArray⟩, .float .f64 (hd R).num] 59)).drew) = w3 at m2 g1 ⊢
  by_cases hk4 : ((hd R).kind == 3) = true
  · have hk4a : (((hd R).kind : Int) == 3) = true := by rw [← hk4]; exact beqK _ 3
    have hk4b : ((hd R).kind : Int) = 3 := by simp at hk4; omega
    have zt0 := g1.c0
    have zt1 := g1.c1
    have zt2 := g1.c2
    have zt3 := g1.c3
    have ztb : ¬ w.heap.size = c.bp := fun e => g1.free (.inl e)
    have ztc : ¬ c.bp = w.heap.size := fun e => g1.free (.inl e.symm)
    have hmore := m2.ps.more m2.rem (by simp at hk4; omega)
    have h1 := m2.ps.c1
    have fz1 := m2.ps.fz 1
    have hlen := m2.ps.len
    have hnx := m2.ps.next hmore
    have m5 := m2.next hnx.1 hnx.2
    have g1' := g1.fr hnx.2
    have g6 := g1'
    clear g1' g1
    go_wp2_with fail
    clear h1 fz1 hlen hnx hmore zt0 zt1 zt2 zt3 ztb ztc m2
    generalize (w3.setCell ⟨c.bp, 1, none⟩ (.int .i64 (((s).i : Int) + 1))) = w7 at m5 g6 ⊢
    refine (number_mid m5 h.room 20 (hd R).pos (hd R).num).mono ?_
    rintro e w8 ⟨s11, k10, rfl, m9⟩
    go_wp2_with fail
    go_ret
    exact PostN.fin m9 (by simp [primaryB, need, name, fail, Res.bind, ok1, hk4])
  · have hk4n : ((hd R).kind == 3) = false := by simpa using hk4
    have hk4a : (((hd R).kind : Int) == 3) = false := by rw [← hk4n]; exact beqK _ 3
    have hk4b : ¬ ((hd R).kind : Int) = 3 := by simp at hk4; omega
    clear hk4
    by_cases hk12 : ((hd R).kind == 4) = true
    · have hk12a : (((hd R).kind : Int) == 4) = true := by rw [← hk12]; exact beqK _ 4
      have hk12b : ((hd R).kind : Int) = 4 := by simp at hk12; omega
      have zt0 := g1.c0
      have zt1 := g1.c1
      have zt2 := g1.c2
      have zt3 := g1.c3
      have ztb : ¬ w.heap.size = c.bp := fun e => g1.free (.inl e)
      have ztc : ¬ c.bp = w.heap.size := fun e => g1.free (.inl e.symm)
      have hmore := m2.ps.more m2.rem (by simp at hk12; omega)
      have h1 := m2.ps.c1
      have fz1 := m2.ps.fz 1
      have hlen := m2.ps.len
      have hnx := m2.ps.next hmore
      have m13 := m2.next hnx.1 hnx.2
      have g1' := g1.fr hnx.2
      have g14 := g1'
      clear g1' g1
      go_wp2_with fail
      clear h1 fz1 hlen hnx hmore zt0 zt1 zt2 zt3 ztb ztc m2
      generalize (w3.setCell ⟨c.bp, 1, none⟩ (.int .i64 (((s).i : Int) + 1))) = w15 at m13 g14 ⊢
      refine (node_mid m13 Lst.nil h.room 21 (hd R).pos (hd R).text).mono ?_
      rintro e w16 ⟨s18, k17, rfl, m19, hp⟩
      have g14' := g14.kept hp (by simp [Value.ownBlock])
      clear hp m13
      have g20 := g14'
      clear g14' g14
      go_wp2_with fail
      go_ret
      exact PostN.fin m19 (by simp [primaryB, need, name, fail, Res.bind, ok1, hk4n, hk12])
    · have hk12n : ((hd R).kind == 4) = false := by simpa using hk12
      have hk12a : (((hd R).kind : Int) == 4) = false := by rw [← hk12n]; exact beqK _ 4
      have hk12b : ¬ ((hd R).kind : Int) = 4 := by simp at hk12; omega
      clear hk12
      by_cases hk21 : ((hd R).kind == 1) = true
      · have hk21a : (((hd R).kind : Int) == 1) = true := by rw [← hk21]; exact beqK _ 1
        have hk21b : ((hd R).kind : Int) = 1 := by simp at hk21; omega
        have zt0 := g1.c0
        have zt1 := g1.c1
        have zt2 := g1.c2
        have zt3 := g1.c3
        have ztb : ¬ w.heap.size = c.bp := fun e => g1.free (.inl e)
        have ztc : ¬ c.bp = w.heap.size := fun e => g1.free (.inl e.symm)
        have hmore := m2.ps.more m2.rem (by simp at hk21; omega)
        have h1 := m2.ps.c1
        have fz1 := m2.ps.fz 1
        have hlen := m2.ps.len
        have hnx := m2.ps.next hmore
        have m22 := m2.next hnx.1 hnx.2
        have g1' := g1.fr hnx.2
        have g23 := g1'
        clear g1' g1
        go_wp2_with fail
        clear h1 fz1 hlen hnx hmore zt0 zt1 zt2 zt3 ztb ztc m2
        generalize (w3.setCell ⟨c.bp, 1, none⟩ (.int .i64 (((s).i : Int) + 1))) = w24 at m22 g23 ⊢
        refine (node_mid m22 Lst.nil h.room 26 (hd R).pos (hd R).text).mono ?_
        rintro e w25 ⟨s27, k26, rfl, m28, hp⟩
        have g23' := g23.kept hp (by simp [Value.ownBlock])
        clear hp m22
        have g29 := g23'
        clear g23' g23
        go_wp2_with fail
        go_ret
        exact PostN.fin m28 (by simp [primaryB, need, name, fail, Res.bind, ok1, hk4n, hk12n, hk21])
      · have hk21n : ((hd R).kind == 1) = false := by simpa using hk21
        have hk21a : (((hd R).kind : Int) == 1) = false := by rw [← hk21n]; exact beqK _ 1
        have hk21b : ¬ ((hd R).kind : Int) = 1 := by simp at hk21; omega
        clear hk21
        by_cases hk30 : ((hd R).kind == 2) = true
        · have hk30a : (((hd R).kind : Int) == 2) = true := by rw [← hk30]; exact beqK _ 2
          have hk30b : ((hd R).kind : Int) = 2 := by simp at hk30; omega
          have zt0 := g1.c0
          have zt1 := g1.c1
          have zt2 := g1.c2
          have zt3 := g1.c3
          have ztb : ¬ w.heap.size = c.bp := fun e => g1.free (.inl e)
          have ztc : ¬ c.bp = w.heap.size := fun e => g1.free (.inl e.symm)
          go_wp2_with fail
          clear zt0 zt1 zt2 zt3 ztb ztc
          refine (simple_calls (hd R).text _).mono ?_
          rintro e wq ⟨rfl, rfl⟩
          by_cases hs31 : 0 < simple (hd R).text
          · have hi0 : (0 : Int) < ((simple (hd R).text : Nat) : Int) := by omega
            have zt0 := g1.c0
            have zt1 := g1.c1
            have zt2 := g1.c2
            have zt3 := g1.c3
            have ztb : ¬ w.heap.size = c.bp := fun e => g1.free (.inl e)
            have ztc : ¬ c.bp = w.heap.size := fun e => g1.free (.inl e.symm)
            have hmore := m2.ps.more m2.rem (by simp at hk30; omega)
            have h1 := m2.ps.c1
            have fz1 := m2.ps.fz 1
            have hlen := m2.ps.len
            have hnx := m2.ps.next hmore
            have m32 := m2.next hnx.1 hnx.2
            have g1' := g1.fr hnx.2
            have g33 := g1'
            clear g1' g1
            go_wp2_with fail
            clear h1 fz1 hlen hnx hmore zt0 zt1 zt2 zt3 ztb ztc m2
            generalize (w3.setCell ⟨c.bp, 1, none⟩ (.int .i64 (((s).i : Int) + 1))) = w34 at m32 g33 ⊢
            clear hi0
            have g33' := g33.below ((Below.refl _ _).drew)
            have m35 := m32.below ((Below.refl _ _).drew)
            clear m32
            have g36 := g33'
            clear g33' g33
            have q37 := g36.c1
            have q38 := g36.c2
            go_region_held2 (fun w' => w'.cell? ⟨w.heap.size, 1, none⟩ = some (.int .i64 (hd R).pos) ∧ w'.cell? ⟨w.heap.size, 2, none⟩ = some (.string ⟨(hd R).text.toArray⟩))
              (first | (refine ⟨?_, ?_⟩ <;> assumption) | go_keep)
              (first
                | (go_at_call 154
                   refine (simple_calls (hd R).text _).mono ?_
                   rintro e wq ⟨rfl, rfl⟩
                   clear q37
                   clear q38
                   have q39 := g36.c1
                   have q40 := g36.c2)
                | (go_at_call 57
                   refine (node_mid m35 Lst.nil h.room (simple (hd R).text) (hd R).pos []).mono ?_
                   rintro e w41 ⟨s43, k42, rfl, m44, hp⟩
                   have g36' := g36.kept hp (by simp [Value.ownBlock])
                   clear hp m35
                   have g45 := g36'
                   clear g36' g36
                   clear q39
                   clear q40
                   have q46 := g45.c1
                   have q47 := g45.c2))
            clear q46
            clear q47
            go_wp2_with fail
            go_ret
            exact PostN.fin m44 (by simp [primaryB, need, name, fail, Res.bind, ok1, hk4n, hk12n, hk21n, hk30, hs31])
          · have hi0 : ¬ (0 : Int) < ((simple (hd R).text : Nat) : Int) := by omega
            have zt0 := g1.c0
            have zt1 := g1.c1
            have zt2 := g1.c2
            have zt3 := g1.c3
            have ztb : ¬ w.heap.size = c.bp := fun e => g1.free (.inl e)
            have ztc : ¬ c.bp = w.heap.size := fun e => g1.free (.inl e.symm)
            go_wp2_with fail
            clear zt0 zt1 zt2 zt3 ztb ztc
            clear hi0
            by_cases hq48 : isTok (hd R) [102, 117, 110, 99, 116, 105, 111, 110] = true
            · refine (take_yes m2.ps m2.rem [102, 117, 110, 99, 116, 105, 111, 110] hq48).mono ?_
              rintro e w49 ⟨rfl, hp, hf⟩
              have m50 := m2.next hp hf
              have g1' := g1.fr hf
              have g51 := g1'
              clear g1' g1
              clear hp hf m2
              have zt0 := g51.c0
              have zt1 := g51.c1
              have zt2 := g51.c2
              have zt3 := g51.c3
              have ztb : ¬ w.heap.size = c.bp := fun e => g51.free (.inl e)
              have ztc : ¬ c.bp = w.heap.size := fun e => g51.free (.inl e.symm)
              go_wp2_with fail
              clear zt0 zt1 zt2 zt3 ztb ztc
              have h0 := m50.ps.c0
              have h1 := m50.ps.c1
              have hbp := m50.ps.bp_lt
              have hbl := m50.ps.bl_lt
              have hi := m50.ps.i
              have hlen := m50.ps.len
              have t0 := m50.ps.t0 m50.rem
              have t1 := m50.ps.t1 m50.rem
              have t2 := m50.ps.t2 m50.rem
              have t3 := m50.ps.t3 m50.rem
              go_region
              have g51' := g51.below ((Below.refl _ _).drew)
              have m52 := m50.below ((Below.refl _ _).drew)
              clear m50
              have g53 := g51'
              clear g51' g51
              generalize w49.drew = w54 at m52 g53 ⊢
              clear h0 h1 hbp hbl hi hlen t0 t1 t2 t3
              by_cases hk55 : ((hd R.tail).kind == 1) = true
              · have hk55a : (((hd R.tail).kind : Int) == 1) = true := by rw [← hk55]; exact beqK _ 1
                have hk55b : ((hd R.tail).kind : Int) = 1 := by simp at hk55; omega
                have zt0 := g53.c0
                have zt1 := g53.c1
                have zt2 := g53.c2
                have zt3 := g53.c3
                have ztb : ¬ w.heap.size = c.bp := fun e => g53.free (.inl e)
                have ztc : ¬ c.bp = w.heap.size := fun e => g53.free (.inl e.symm)
                go_wp2_with fail
                clear zt0 zt1 zt2 zt3 ztb ztc
                refine (name_yes m52.ps m52.rem hk55).mono ?_
                rintro e w56 ⟨rfl, hp, hf⟩
                have m57 := m52.next hp hf
                have g53' := g53.fr hf
                have g58 := g53'
                clear g53' g53
                clear hp hf m52
                have zt0 := g58.c0
                have zt1 := g58.c1
                have zt2 := g58.c2
                have zt3 := g58.c3
                have ztb : ¬ w.heap.size = c.bp := fun e => g58.free (.inl e)
                have ztc : ¬ c.bp = w.heap.size := fun e => g58.free (.inl e.symm)
                go_wp2_with fail
                clear zt0 zt1 zt2 zt3 ztb ztc
                have g58' := g58.below ((Below.refl _ _).drew)
                have m59 := m57.below ((Below.refl _ _).drew)
                clear m57
                have g60 := g58'
                clear g58' g58
                have q61 := g60.c1
                go_region_held2 (fun w' => w'.cell? ⟨w.heap.size, 1, none⟩ = some (.int .i64 (hd R).pos))
                  (first | assumption | go_keep)
                  (first
                    | (go_at_call 96
                       have HChc62 : Hid (pRun n (.rest lv) R.tail.tail ≠ .out) := fun e => HN.out (by simp [primaryB, need, name, fail, Res.bind, ok1, hk4n, hk12n, hk21n, hk30, hs31, hq48, hk55, e])
                       refine (ih.rest _ _ _ _ _ m59.ps m59.rem (m59.lv HL.out) hle HChc62.out).mono ?_
                       rintro e w63 hpost
                       rcases hc62 : pRun n (.rest lv) R.tail.tail with ⟨tshc62, Rhc62⟩ | ⟨en, p⟩ | _
                       rotate_left
                       · rw [hc62] at hpost
                         have hb2 := Bad.trans m59.fr hpost
                         obtain ⟨rfl, _⟩ := hpost
                         exact ⟨rfl, PostN.bad hb2 (by simp [primaryB, need, name, fail, Res.bind, ok1, hk4n, hk12n, hk21n, hk30, hs31, hq48, hk55, hc62])⟩
                       · exact absurd hc62 HChc62.out
                       rw [hc62] at hpost
                       obtain ⟨shc62, vhc62, khc62, rfl, mm, l64⟩ := hpost
                       have m65 := m59.call mm
                       have lt66 := g60.lt
                       have g60' := g60.fr mm.fr
                       have g67 := g60'
                       clear g60' g60
                       have nb68 : vhc62.ownBlock ≠ some w.heap.size := fun e => by have h1 := (l64.new _ e).2.1; have h2 := lt66; omega
                       have l69 := l64.older m59.fr.size
                       clear l64
                       have Hhc62 := hidden hc62
                       clear mm m59 hc62 HChc62
                       clear q61
                       have q70 := g67.c1)
                    | (go_at_call 57
                       refine (node_mid m65 l69 h.room 27 (hd R).pos (hd R.tail).text).mono ?_
                       rintro e w71 ⟨s73, k72, rfl, m74, hp⟩
                       have g67' := g67.kept hp nb68
                       clear hp m65
                       have g75 := g67'
                       clear g67' g67
                       clear q70
                       have q76 := g75.c1))
                clear q76
                go_wp2_with fail
                go_ret
                exact PostN.fin m74 (by simp [primaryB, need, name, fail, Res.bind, ok1, hk4n, hk12n, hk21n, hk30, hs31, hq48, hk55, Hhc62.out])
              · have hk55n : ((hd R.tail).kind == 1) = false := by simpa using hk55
                have hk55a : (((hd R.tail).kind : Int) == 1) = false := by rw [← hk55n]; exact beqK _ 1
                have hk55b : ¬ ((hd R.tail).kind : Int) = 1 := by simp at hk55; omega
                clear hk55
                have zt0 := g53.c0
                have zt1 := g53.c1
                have zt2 := g53.c2
                have zt3 := g53.c3
                have ztb : ¬ w.heap.size = c.bp := fun e => g53.free (.inl e)
                have ztc : ¬ c.bp = w.heap.size := fun e => g53.free (.inl e.symm)
                go_wp2_with fail
                clear zt0 zt1 zt2 zt3 ztb ztc
                have g53' := g53.below ((Below.refl _ _).drew)
                have m77 := m52.below ((Below.refl _ _).drew)
                clear m52
                have g78 := g53'
                clear g53' g53
                have q79 := g78.c1
                go_region_held2 (fun w' => w'.cell? ⟨w.heap.size, 1, none⟩ = some (.int .i64 (hd R).pos))
                  (first | assumption | go_keep)
                  (first
                    | (go_at_call 96
                       have HChc80 : Hid (pRun n (.rest lv) R.tail ≠ .out) := fun e => HN.out (by simp [primaryB, need, name, fail, Res.bind, ok1, hk4n, hk12n, hk21n, hk30, hs31, hq48, hk55n, e])
                       refine (ih.rest _ _ _ _ _ m77.ps m77.rem (m77.lv HL.out) hle HChc80.out).mono ?_
                       rintro e w81 hpost
                       rcases hc80 : pRun n (.rest lv) R.tail with ⟨tshc80, Rhc80⟩ | ⟨en, p⟩ | _
                       rotate_left
                       · rw [hc80] at hpost
                         have hb2 := Bad.trans m77.fr hpost
                         obtain ⟨rfl, _⟩ := hpost
                         exact ⟨rfl, PostN.bad hb2 (by simp [primaryB, need, name, fail, Res.bind, ok1, hk4n, hk12n, hk21n, hk30, hs31, hq48, hk55n, hc80])⟩
                       · exact absurd hc80 HChc80.out
                       rw [hc80] at hpost
                       obtain ⟨shc80, vhc80, khc80, rfl, mm, l82⟩ := hpost
                       have m83 := m77.call mm
                       have lt84 := g78.lt
                       have g78' := g78.fr mm.fr
                       have g85 := g78'
                       clear g78' g78
                       have nb86 : vhc80.ownBlock ≠ some w.heap.size := fun e => by have h1 := (l82.new _ e).2.1; have h2 := lt84; omega
                       have l87 := l82.older m77.fr.size
                       clear l82
                       have Hhc80 := hidden hc80
                       clear mm m77 hc80 HChc80
                       clear q79
                       have q88 := g85.c1)
                    | (go_at_call 57
                       refine (node_mid m83 l87 h.room 27 (hd R).pos []).mono ?_
                       rintro e w89 ⟨s91, k90, rfl, m92, hp⟩
                       have g85' := g85.kept hp nb86
                       clear hp m83
                       have g93 := g85'
                       clear g85' g85
                       clear q88
                       have q94 := g93.c1))
                clear q94
                go_wp2_with fail
                go_ret
                exact PostN.fin m92 (by simp [primaryB, need, name, fail, Res.bind, ok1, hk4n, hk12n, hk21n, hk30, hs31, hq48, hk55n, Hhc80.out])
            · refine (take_no m2.ps m2.rem [102, 117, 110, 99, 116, 105, 111, 110] (by simpa using hq48)).mono ?_
              rintro e w95 ⟨rfl, hb⟩
              have g1' := g1.below hb
              have m96 := m2.below hb
              clear m2
              have g97 := g1'
              clear g1' g1
              clear hb
              have zt0 := g97.c0
              have zt1 := g97.c1
              have zt2 := g97.c2
              have zt3 := g97.c3
              have ztb : ¬ w.heap.size = c.bp := fun e => g97.free (.inl e)
              have ztc : ¬ c.bp = w.heap.size := fun e => g97.free (.inl e.symm)
              go_wp2_with fail
              clear zt0 zt1 zt2 zt3 ztb ztc
              by_cases hq98 : isTok (hd R) [40] = true
              · refine (take_yes m96.ps m96.rem [40] hq98).mono ?_
                rintro e w99 ⟨rfl, hp, hf⟩
                have m100 := m96.next hp hf
                have g97' := g97.fr hf
                have g101 := g97'
                clear g97' g97
                clear hp hf m96
                have zt0 := g101.c0
                have zt1 := g101.c1
                have zt2 := g101.c2
                have zt3 := g101.c3
                have ztb : ¬ w.heap.size = c.bp := fun e => g101.free (.inl e)
                have ztc : ¬ c.bp = w.heap.size := fun e => g101.free (.inl e.symm)
                go_wp2_with fail
                clear zt0 zt1 zt2 zt3 ztb ztc
                have HChc102 : Hid (pRun n (.assign lv) R.tail ≠ .out) := fun e => HN.out (by simp [primaryB, need, name, fail, Res.bind, ok1, hk4n, hk12n, hk21n, hk30, hs31, hq48, hq98, e])
                refine (ih.assign _ _ _ _ _ m100.ps m100.rem (m100.lv HL.out) hle HChc102.out).mono ?_
                rintro e w103 hpost
                rcases hc102 : pRun n (.assign lv) R.tail with ⟨tshc102, Rhc102⟩ | ⟨en, p⟩ | _
                rotate_left
                · rw [hc102] at hpost
                  have hb2 := Bad.trans m100.fr hpost
                  obtain ⟨rfl, _⟩ := hpost
                  exact ⟨rfl, PostN.bad hb2 (by simp [primaryB, need, name, fail, Res.bind, ok1, hk4n, hk12n, hk21n, hk30, hs31, hq48, hq98, hc102])⟩
                · exact absurd hc102 HChc102.out
                rw [hc102] at hpost
                obtain ⟨shc102, khc102, thc102, rfl, rfl, mm⟩ := hpost
                have m104 := m100.call mm
                have g101' := g101.fr mm.fr
                have g105 := g101'
                clear g101' g101
                have Hhc102 := hidden hc102
                clear mm m100 hc102 HChc102
                have zt0 := g105.c0
                have zt1 := g105.c1
                have zt2 := g105.c2
                have zt3 := g105.c3
                have ztb : ¬ w.heap.size = c.bp := fun e => g105.free (.inl e)
                have ztc : ¬ c.bp = w.heap.size := fun e => g105.free (.inl e.symm)
                go_wp2_with fail
                clear zt0 zt1 zt2 zt3 ztb ztc
                by_cases hx106 : isTok (hd Rhc102) [41] = true
                rotate_left
                · refine (need_no m104.ps m104.rem [41] (by simpa using hx106)).mono ?_
                  rintro e wz hbad
                  have hb2 := Bad.trans m104.fr hbad
                  obtain ⟨rfl, _⟩ := hbad
                  exact ⟨rfl, PostN.bad hb2 (by simp [primaryB, need, name, fail, Res.bind, ok1, hk4n, hk12n, hk21n, hk30, hs31, hq48, hq98, Hhc102.out, hx106])⟩
                refine (need_yes m104.ps m104.rem [41] hx106).mono ?_
                rintro e w107 ⟨rfl, hp, hf⟩
                have m108 := m104.next hp hf
                have g105' := g105.fr hf
                have g109 := g105'
                clear g105' g105
                clear hp hf m104
                have zt0 := g109.c0
                have zt1 := g109.c1
                have zt2 := g109.c2
                have zt3 := g109.c3
                have ztb : ¬ w.heap.size = c.bp := fun e => g109.free (.inl e)
                have ztc : ¬ c.bp = w.heap.size := fun e => g109.free (.inl e.symm)
                go_wp2_with fail
                clear zt0 zt1 zt2 zt3 ztb ztc
                go_ret
                exact PostN.fin m108 (by simp [primaryB, need, name, fail, Res.bind, ok1, hk4n, hk12n, hk21n, hk30, hs31, hq48, hq98, Hhc102.out, hx106])
              · refine (take_no m96.ps m96.rem [40] (by simpa using hq98)).mono ?_
                rintro e w110 ⟨rfl, hb⟩
                have g97' := g97.below hb
                have m111 := m96.below hb
                clear m96
                have g112 := g97'
                clear g97' g97
                clear hb
                have zt0 := g112.c0
                have zt1 := g112.c1
                have zt2 := g112.c2
                have zt3 := g112.c3
                have ztb : ¬ w.heap.size = c.bp := fun e => g112.free (.inl e)
                have ztc : ¬ c.bp = w.heap.size := fun e => g112.free (.inl e.symm)
                go_wp2_with fail
                clear zt0 zt1 zt2 zt3 ztb ztc
                by_cases hq113 : isTok (hd R) [91] = true
                · refine (take_yes m111.ps m111.rem [91] hq113).mono ?_
                  rintro e w114 ⟨rfl, hp, hf⟩
                  have m115 := m111.next hp hf
                  have g112' := g112.fr hf
                  have g116 := g112'
                  clear g112' g112
                  clear hp hf m111
                  have zt0 := g116.c0
                  have zt1 := g116.c1
                  have zt2 := g116.c2
                  have zt3 := g116.c3
                  have ztb : ¬ w.heap.size = c.bp := fun e => g116.free (.inl e)
                  have ztc : ¬ c.bp = w.heap.size := fun e => g116.free (.inl e.symm)
                  go_wp2_with fail
                  clear zt0 zt1 zt2 zt3 ztb ztc
                  have g116' := g116.below ((Below.refl _ _).drew)
                  have m117 := m115.below ((Below.refl _ _).drew)
                  clear m115
                  have g118 := g116'
                  clear g116' g116
                  have q119 := g118.c1
                  go_region_held2 (fun w' => w'.cell? ⟨w.heap.size, 1, none⟩ = some (.int .i64 (hd R).pos))
                    (first | assumption | go_keep)
                    (first
                      | (go_at_call 125
                         have HChc120 : Hid (pRun n (.list lv [93] 16384 .assign 0) R.tail ≠ .out) := fun e => HN.out (by simp [primaryB, need, name, fail, Res.bind, ok1, hk4n, hk12n, hk21n, hk30, hs31, hq48, hq98, hq113, e])
                         refine (list_assign n ih m117.ps m117.rem (m117.lv HL.out) hle [93] 16384 (by decide) 0 HChc120.out (fun e => nomatch e)).mono ?_
                         rintro e w121 hpost
                         rcases hc120 : pRun n (.list lv [93] 16384 .assign 0) R.tail with ⟨tshc120, Rhc120⟩ | ⟨en, p⟩ | _
                         rotate_left
                         · rw [hc120] at hpost
                           have hb2 := Bad.trans m117.fr hpost
                           obtain ⟨rfl, _⟩ := hpost
                           exact ⟨rfl, PostN.bad hb2 (by simp [primaryB, need, name, fail, Res.bind, ok1, hk4n, hk12n, hk21n, hk30, hs31, hq48, hq98, hq113, hc120])⟩
                         · exact absurd hc120 HChc120.out
                         rw [hc120] at hpost
                         obtain ⟨shc120, vhc120, khc120, rfl, mm, l122⟩ := hpost
                         have m123 := m117.call mm
                         have lt124 := g118.lt
                         have g118' := g118.fr mm.fr
                         have g125 := g118'
                         clear g118' g118
                         have nb126 : vhc120.ownBlock ≠ some w.heap.size := fun e => by have h1 := (l122.new _ e).2.1; have h2 := lt124; omega
                         have l127 := l122.older m117.fr.size
                         clear l122
                         have Hhc120 := hidden hc120
                         clear mm m117 hc120 HChc120
                         clear q119
                         have q128 := g125.c1)
                      | (go_at_call 57
                         refine (node_mid m123 l127 h.room 33 (hd R).pos []).mono ?_
                         rintro e w129 ⟨s131, k130, rfl, m132, hp⟩
                         have g125' := g125.kept hp nb126
                         clear hp m123
                         have g133 := g125'
                         clear g125' g125
                         clear q128
                         have q134 := g133.c1))
                  clear q134
                  go_wp2_with fail
                  go_ret
                  exact PostN.fin m132 (by simp [primaryB, need, name, fail, Res.bind, ok1, hk4n, hk12n, hk21n, hk30, hs31, hq48, hq98, hq113, Hhc120.out])
                · refine (take_no m111.ps m111.rem [91] (by simpa using hq113)).mono ?_
                  rintro e w135 ⟨rfl, hb⟩
                  have g112' := g112.below hb
                  have m136 := m111.below hb
                  clear m111
                  have g137 := g112'
                  clear g112' g112
                  clear hb
                  have zt0 := g137.c0
                  have zt1 := g137.c1
                  have zt2 := g137.c2
                  have zt3 := g137.c3
                  have ztb : ¬ w.heap.size = c.bp := fun e => g137.free (.inl e)
                  have ztc : ¬ c.bp = w.heap.size := fun e => g137.free (.inl e.symm)
                  go_wp2_with fail
                  clear zt0 zt1 zt2 zt3 ztb ztc
                  by_cases hq138 : isTok (hd R) [123] = true
                  · refine (take_yes m136.ps m136.rem [123] hq138).mono ?_
                    rintro e w139 ⟨rfl, hp, hf⟩
                    have m140 := m136.next hp hf
                    have g137' := g137.fr hf
                    have g141 := g137'
                    clear g137' g137
                    clear hp hf m136
                    have zt0 := g141.c0
                    have zt1 := g141.c1
                    have zt2 := g141.c2
                    have zt3 := g141.c3
                    have ztb : ¬ w.heap.size = c.bp := fun e => g141.free (.inl e)
                    have ztc : ¬ c.bp = w.heap.size := fun e => g141.free (.inl e.symm)
                    go_wp2_with fail
                    clear zt0 zt1 zt2 zt3 ztb ztc
                    have g141' := g141.below ((Below.refl _ _).drew)
                    have m142 := m140.below ((Below.refl _ _).drew)
                    clear m140
                    have g143 := g141'
                    clear g141' g141
                    have q144 := g143.c1
                    go_region_held2 (fun w' => w'.cell? ⟨w.heap.size, 1, none⟩ = some (.int .i64 (hd R).pos))
                      (first | assumption | go_keep)
                      (first
                        | (go_at_call 125
                           have HChc145 : Hid (pRun n (.list lv [125] 16384 .pair 0) R.tail ≠ .out) := fun e => HN.out (by simp [primaryB, need, name, fail, Res.bind, ok1, hk4n, hk12n, hk21n, hk30, hs31, hq48, hq98, hq113, hq138, e])
                           refine (list_pair n ih m142.ps m142.rem (m142.lv HL.out) hle [125] 16384 (by decide) 0 HChc145.out (fun e => nomatch e)).mono ?_
                           rintro e w146 hpost
                           rcases hc145 : pRun n (.list lv [125] 16384 .pair 0) R.tail with ⟨tshc145, Rhc145⟩ | ⟨en, p⟩ | _
                           rotate_left
                           · rw [hc145] at hpost
                             have hb2 := Bad.trans m142.fr hpost
                             obtain ⟨rfl, _⟩ := hpost
                             exact ⟨rfl, PostN.bad hb2 (by simp [primaryB, need, name, fail, Res.bind, ok1, hk4n, hk12n, hk21n, hk30, hs31, hq48, hq98, hq113, hq138, hc145])⟩
                           · exact absurd hc145 HChc145.out
                           rw [hc145] at hpost
                           obtain ⟨shc145, vhc145, khc145, rfl, mm, l147⟩ := hpost
                           have m148 := m142.call mm
                           have lt149 := g143.lt
                           have g143' := g143.fr mm.fr
                           have g150 := g143'
                           clear g143' g143
                           have nb151 : vhc145.ownBlock ≠ some w.heap.size := fun e => by have h1 := (l147.new _ e).2.1; have h2 := lt149; omega
                           have l152 := l147.older m142.fr.size
                           clear l147
                           have Hhc145 := hidden hc145
                           clear mm m142 hc145 HChc145
                           clear q144
                           have q153 := g150.c1)
                        | (go_at_call 57
                           refine (node_mid m148 l152 h.room 28 (hd R).pos []).mono ?_
                           rintro e w154 ⟨s156, k155, rfl, m157, hp⟩
                           have g150' := g150.kept hp nb151
                           clear hp m148
                           have g158 := g150'
                           clear g150' g150
                           clear q153
                           have q159 := g158.c1))
                    clear q159
                    go_wp2_with fail
                    go_ret
                    exact PostN.fin m157 (by simp [primaryB, need, name, fail, Res.bind, ok1, hk4n, hk12n, hk21n, hk30, hs31, hq48, hq98, hq113, hq138, Hhc145.out])
                  · refine (take_no m136.ps m136.rem [123] (by simpa using hq138)).mono ?_
                    rintro e w160 ⟨rfl, hb⟩
                    have g137' := g137.below hb
                    have m161 := m136.below hb
                    clear m136
                    have g162 := g137'
                    clear g137' g137
                    clear hb
                    have zt0 := g162.c0
                    have zt1 := g162.c1
                    have zt2 := g162.c2
                    have zt3 := g162.c3
                    have ztb : ¬ w.heap.size = c.bp := fun e => g162.free (.inl e)
                    have ztc : ¬ c.bp = w.heap.size := fun e => g162.free (.inl e.symm)
                    go_wp2_with fail
                    clear zt0 zt1 zt2 zt3 ztb ztc
                    refine (fail_calls m161.ps m161.rem 5).mono ?_
                    rintro e wz hbad
                    have hb2 := Bad.trans m161.fr hbad
                    obtain ⟨rfl, _⟩ := hbad
                    exact ⟨rfl, PostN.bad hb2 (by simp [primaryB, need, name, fail, Res.bind, ok1, hk4n, hk12n, hk21n, hk30, hs31, hq48, hq98, hq113, hq138])⟩
        · have hk30n : ((hd R).kind == 2) = false := by simpa using hk30
          have hk30a : (((hd R).kind : Int) == 2) = false := by rw [← hk30n]; exact beqK _ 2
          have hk30b : ¬ ((hd R).kind : Int) = 2 := by simp at hk30; omega
          clear hk30
          have zt0 := g1.c0
          have zt1 := g1.c1
          have zt2 := g1.c2
          have zt3 := g1.c3
          have ztb : ¬ w.heap.size = c.bp := fun e => g1.free (.inl e)
          have ztc : ¬ c.bp = w.heap.size := fun e => g1.free (.inl e.symm)
          go_wp2_with fail
          clear zt0 zt1 zt2 zt3 ztb ztc
          by_cases hq163 : isTok (hd R) [102, 117, 110, 99, 116, 105, 111, 110] = true
          · refine (take_yes m2.ps m2.rem [102, 117, 110, 99, 116, 105, 111, 110] hq163).mono ?_
            rintro e w164 ⟨rfl, hp, hf⟩
            have m165 := m2.next hp hf
            have g1' := g1.fr hf
            have g166 := g1'
            clear g1' g1
            clear hp hf m2
            have zt0 := g166.c0
            have zt1 := g166.c1
            have zt2 := g166.c2
            have zt3 := g166.c3
            have ztb : ¬ w.heap.size = c.bp := fun e => g166.free (.inl e)
            have ztc : ¬ c.bp = w.heap.size := fun e => g166.free (.inl e.symm)
            go_wp2_with fail
            clear zt0 zt1 zt2 zt3 ztb ztc
            have h0 := m165.ps.c0
            have h1 := m165.ps.c1
            have hbp := m165.ps.bp_lt
            have hbl := m165.ps.bl_lt
            have hi := m165.ps.i
            have hlen := m165.ps.len
            have t0 := m165.ps.t0 m165.rem
            have t1 := m165.ps.t1 m165.rem
            have t2 := m165.ps.t2 m165.rem
            have t3 := m165.ps.t3 m165.rem
            go_region
            have g166' := g166.below ((Below.refl _ _).drew)
            have m167 := m165.below ((Below.refl _ _).drew)
            clear m165
            have g168 := g166'
            clear g166' g166
            generalize w164.drew = w169 at m167 g168 ⊢
            clear h0 h1 hbp hbl hi hlen t0 t1 t2 t3
            by_cases hk170 : ((hd R.tail).kind == 1) = true
            · have hk170a : (((hd R.tail).kind : Int) == 1) = true := by rw [← hk170]; exact beqK _ 1
              have hk170b : ((hd R.tail).kind : Int) = 1 := by simp at hk170; omega
              have zt0 := g168.c0
              have zt1 := g168.c1
              have zt2 := g168.c2
              have zt3 := g168.c3
              have ztb : ¬ w.heap.size = c.bp := fun e => g168.free (.inl e)
              have ztc : ¬ c.bp = w.heap.size := fun e => g168.free (.inl e.symm)
              go_wp2_with fail
              clear zt0 zt1 zt2 zt3 ztb ztc
              refine (name_yes m167.ps m167.rem hk170).mono ?_
              rintro e w171 ⟨rfl, hp, hf⟩
              have m172 := m167.next hp hf
              have g168' := g168.fr hf
              have g173 := g168'
              clear g168' g168
              clear hp hf m167
              have zt0 := g173.c0
              have zt1 := g173.c1
              have zt2 := g173.c2
              have zt3 := g173.c3
              have ztb : ¬ w.heap.size = c.bp := fun e => g173.free (.inl e)
              have ztc : ¬ c.bp = w.heap.size := fun e => g173.free (.inl e.symm)
              go_wp2_with fail
              clear zt0 zt1 zt2 zt3 ztb ztc
              have g173' := g173.below ((Below.refl _ _).drew)
              have m174 := m172.below ((Below.refl _ _).drew)
              clear m172
              have g175 := g173'
              clear g173' g173
              have q176 := g175.c1
              go_region_held2 (fun w' => w'.cell? ⟨w.heap.size, 1, none⟩ = some (.int .i64 (hd R).pos))
                (first | assumption | go_keep)
                (first
                  | (go_at_call 96
                     have HChc177 : Hid (pRun n (.rest lv) R.tail.tail ≠ .out) := fun e => HN.out (by simp [primaryB, need, name, fail, Res.bind, ok1, hk4n, hk12n, hk21n, hk30n, hq163, hk170, e])
                     refine (ih.rest _ _ _ _ _ m174.ps m174.rem (m174.lv HL.out) hle HChc177.out).mono ?_
                     rintro e w178 hpost
                     rcases hc177 : pRun n (.rest lv) R.tail.tail with ⟨tshc177, Rhc177⟩ | ⟨en, p⟩ | _
                     rotate_left
                     · rw [hc177] at hpost
                       have hb2 := Bad.trans m174.fr hpost
                       obtain ⟨rfl, _⟩ := hpost
                       exact ⟨rfl, PostN.bad hb2 (by simp [primaryB, need, name, fail, Res.bind, ok1, hk4n, hk12n, hk21n, hk30n, hq163, hk170, hc177])⟩
                     · exact absurd hc177 HChc177.out
                     rw [hc177] at hpost
                     obtain ⟨shc177, vhc177, khc177, rfl, mm, l179⟩ := hpost
                     have m180 := m174.call mm
                     have lt181 := g175.lt
                     have g175' := g175.fr mm.fr
                     have g182 := g175'
                     clear g175' g175
                     have nb183 : vhc177.ownBlock ≠ some w.heap.size := fun e => by have h1 := (l179.new _ e).2.1; have h2 := lt181; omega
                     have l184 := l179.older m174.fr.size
                     clear l179
                     have Hhc177 := hidden hc177
                     clear mm m174 hc177 HChc177
                     clear q176
                     have q185 := g182.c1)
                  | (go_at_call 57
                     refine (node_mid m180 l184 h.room 27 (hd R).pos (hd R.tail).text).mono ?_
                     rintro e w186 ⟨s188, k187, rfl, m189, hp⟩
                     have g182' := g182.kept hp nb183
                     clear hp m180
                     have g190 := g182'
                     clear g182' g182
                     clear q185
                     have q191 := g190.c1))
              clear q191
              go_wp2_with fail
              go_ret
              exact PostN.fin m189 (by simp [primaryB, need, name, fail, Res.bind, ok1, hk4n, hk12n, hk21n, hk30n, hq163, hk170, Hhc177.out])
            · have hk170n : ((hd R.tail).kind == 1) = false := by simpa using hk170
              have hk170a : (((hd R.tail).kind : Int) == 1) = false := by rw [← hk170n]; exact beqK _ 1
              have hk170b : ¬ ((hd R.tail).kind : Int) = 1 := by simp at hk170; omega
              clear hk170
              have zt0 := g168.c0
              have zt1 := g168.c1
              have zt2 := g168.c2
              have zt3 := g168.c3
              have ztb : ¬ w.heap.size = c.bp := fun e => g168.free (.inl e)
              have ztc : ¬ c.bp = w.heap.size := fun e => g168.free (.inl e.symm)
              go_wp2_with fail
              clear zt0 zt1 zt2 zt3 ztb ztc
              have g168' := g168.below ((Below.refl _ _).drew)
              have m192 := m167.below ((Below.refl _ _).drew)
              clear m167
              have g193 := g168'
              clear g168' g168
              have q194 := g193.c1
              go_region_held2 (fun w' => w'.cell? ⟨w.heap.size, 1, none⟩ = some (.int .i64 (hd R).pos))
                (first | assumption | go_keep)
                (first
                  | (go_at_call 96
                     have HChc195 : Hid (pRun n (.rest lv) R.tail ≠ .out) := fun e => HN.out (by simp [primaryB, need, name, fail, Res.bind, ok1, hk4n, hk12n, hk21n, hk30n, hq163, hk170n, e])
                     refine (ih.rest _ _ _ _ _ m192.ps m192.rem (m192.lv HL.out) hle HChc195.out).mono ?_
                     rintro e w196 hpost
                     rcases hc195 : pRun n (.rest lv) R.tail with ⟨tshc195, Rhc195⟩ | ⟨en, p⟩ | _
                     rotate_left
                     · rw [hc195] at hpost
                       have hb2 := Bad.trans m192.fr hpost
                       obtain ⟨rfl, _⟩ := hpost
                       exact ⟨rfl, PostN.bad hb2 (by simp [primaryB, need, name, fail, Res.bind, ok1, hk4n, hk12n, hk21n, hk30n, hq163, hk170n, hc195])⟩
                     · exact absurd hc195 HChc195.out
                     rw [hc195] at hpost
                     obtain ⟨shc195, vhc195, khc195, rfl, mm, l197⟩ := hpost
                     have m198 := m192.call mm
                     have lt199 := g193.lt
                     have g193' := g193.fr mm.fr
                     have g200 := g193'
                     clear g193' g193
                     have nb201 : vhc195.ownBlock ≠ some w.heap.size := fun e => by have h1 := (l197.new _ e).2.1; have h2 := lt199; omega
                     have l202 := l197.older m192.fr.size
                     clear l197
                     have Hhc195 := hidden hc195
                     clear mm m192 hc195 HChc195
                     clear q194
                     have q203 := g200.c1)
                  | (go_at_call 57
                     refine (node_mid m198 l202 h.room 27 (hd R).pos []).mono ?_
                     rintro e w204 ⟨s206, k205, rfl, m207, hp⟩
                     have g200' := g200.kept hp nb201
                     clear hp m198
                     have g208 := g200'
                     clear g200' g200
                     clear q203
                     have q209 := g208.c1))
              clear q209
              go_wp2_with fail
              go_ret
              exact PostN.fin m207 (by simp [primaryB, need, name, fail, Res.bind, ok1, hk4n, hk12n, hk21n, hk30n, hq163, hk170n, Hhc195.out])
          · refine (take_no m2.ps m2.rem [102, 117, 110, 99, 116, 105, 111, 110] (by simpa using hq163)).mono ?_
            rintro e w210 ⟨rfl, hb⟩
            have g1' := g1.below hb
            have m211 := m2.below hb
            clear m2
            have g212 := g1'
            clear g1' g1
            clear hb
            have zt0 := g212.c0
            have zt1 := g212.c1
            have zt2 := g212.c2
            have zt3 := g212.c3
            have ztb : ¬ w.heap.size = c.bp := fun e => g212.free (.inl e)
            have ztc : ¬ c.bp = w.heap.size := fun e => g212.free (.inl e.symm)
            go_wp2_with fail
            clear zt0 zt1 zt2 zt3 ztb ztc
            by_cases hq213 : isTok (hd R) [40] = true
            · refine (take_yes m211.ps m211.rem [40] hq213).mono ?_
              rintro e w214 ⟨rfl, hp, hf⟩
              have m215 := m211.next hp hf
              have g212' := g212.fr hf
              have g216 := g212'
              clear g212' g212
              clear hp hf m211
              have zt0 := g216.c0
              have zt1 := g216.c1
              have zt2 := g216.c2
              have zt3 := g216.c3
              have ztb : ¬ w.heap.size = c.bp := fun e => g216.free (.inl e)
              have ztc : ¬ c.bp = w.heap.size := fun e => g216.free (.inl e.symm)
              go_wp2_with fail
              clear zt0 zt1 zt2 zt3 ztb ztc
              have HChc217 : Hid (pRun n (.assign lv) R.tail ≠ .out) := fun e => HN.out (by simp [primaryB, need, name, fail, Res.bind, ok1, hk4n, hk12n, hk21n, hk30n, hq163, hq213, e])
              refine (ih.assign _ _ _ _ _ m215.ps m215.rem (m215.lv HL.out) hle HChc217.out).mono ?_
              rintro e w218 hpost
              rcases hc217 : pRun n (.assign lv) R.tail with ⟨tshc217, Rhc217⟩ | ⟨en, p⟩ | _
              rotate_left
              · rw [hc217] at hpost
                have hb2 := Bad.trans m215.fr hpost
                obtain ⟨rfl, _⟩ := hpost
                exact ⟨rfl, PostN.bad hb2 (by simp [primaryB, need, name, fail, Res.bind, ok1, hk4n, hk12n, hk21n, hk30n, hq163, hq213, hc217])⟩
              · exact absurd hc217 HChc217.out
              rw [hc217] at hpost
              obtain ⟨shc217, khc217, thc217, rfl, rfl, mm⟩ := hpost
              have m219 := m215.call mm
              have g216' := g216.fr mm.fr
              have g220 := g216'
              clear g216' g216
              have Hhc217 := hidden hc217
              clear mm m215 hc217 HChc217
              have zt0 := g220.c0
              have zt1 := g220.c1
              have zt2 := g220.c2
              have zt3 := g220.c3
              have ztb : ¬ w.heap.size = c.bp := fun e => g220.free (.inl e)
              have ztc : ¬ c.bp = w.heap.size := fun e => g220.free (.inl e.symm)
              go_wp2_with fail
              clear zt0 zt1 zt2 zt3 ztb ztc
              by_cases hx221 : isTok (hd Rhc217) [41] = true
              rotate_left
              · refine (need_no m219.ps m219.rem [41] (by simpa using hx221)).mono ?_
                rintro e wz hbad
                have hb2 := Bad.trans m219.fr hbad
                obtain ⟨rfl, _⟩ := hbad
                exact ⟨rfl, PostN.bad hb2 (by simp [primaryB, need, name, fail, Res.bind, ok1, hk4n, hk12n, hk21n, hk30n, hq163, hq213, Hhc217.out, hx221])⟩
              refine (need_yes m219.ps m219.rem [41] hx221).mono ?_
              rintro e w222 ⟨rfl, hp, hf⟩
              have m223 := m219.next hp hf
              have g220' := g220.fr hf
              have g224 := g220'
              clear g220' g220
              clear hp hf m219
              have zt0 := g224.c0
              have zt1 := g224.c1
              have zt2 := g224.c2
              have zt3 := g224.c3
              have ztb : ¬ w.heap.size = c.bp := fun e => g224.free (.inl e)
              have ztc : ¬ c.bp = w.heap.size := fun e => g224.free (.inl e.symm)
              go_wp2_with fail
              clear zt0 zt1 zt2 zt3 ztb ztc
              go_ret
              exact PostN.fin m223 (by simp [primaryB, need, name, fail, Res.bind, ok1, hk4n, hk12n, hk21n, hk30n, hq163, hq213, Hhc217.out, hx221])
            · refine (take_no m211.ps m211.rem [40] (by simpa using hq213)).mono ?_
              rintro e w225 ⟨rfl, hb⟩
              have g212' := g212.below hb
              have m226 := m211.below hb
              clear m211
              have g227 := g212'
              clear g212' g212
              clear hb
              have zt0 := g227.c0
              have zt1 := g227.c1
              have zt2 := g227.c2
              have zt3 := g227.c3
              have ztb : ¬ w.heap.size = c.bp := fun e => g227.free (.inl e)
              have ztc : ¬ c.bp = w.heap.size := fun e => g227.free (.inl e.symm)
              go_wp2_with fail
              clear zt0 zt1 zt2 zt3 ztb ztc
              by_cases hq228 : isTok (hd R) [91] = true
              · refine (take_yes m226.ps m226.rem [91] hq228).mono ?_
                rintro e w229 ⟨rfl, hp, hf⟩
                have m230 := m226.next hp hf
                have g227' := g227.fr hf
                have g231 := g227'
                clear g227' g227
                clear hp hf m226
                have zt0 := g231.c0
                have zt1 := g231.c1
                have zt2 := g231.c2
                have zt3 := g231.c3
                have ztb : ¬ w.heap.size = c.bp := fun e => g231.free (.inl e)
                have ztc : ¬ c.bp = w.heap.size := fun e => g231.free (.inl e.symm)
                go_wp2_with fail
                clear zt0 zt1 zt2 zt3 ztb ztc
                have g231' := g231.below ((Below.refl _ _).drew)
                have m232 := m230.below ((Below.refl _ _).drew)
                clear m230
                have g233 := g231'
                clear g231' g231
                have q234 := g233.c1
                go_region_held2 (fun w' => w'.cell? ⟨w.heap.size, 1, none⟩ = some (.int .i64 (hd R).pos))
                  (first | assumption | go_keep)
                  (first
                    | (go_at_call 125
                       have HChc235 : Hid (pRun n (.list lv [93] 16384 .assign 0) R.tail ≠ .out) := fun e => HN.out (by simp [primaryB, need, name, fail, Res.bind, ok1, hk4n, hk12n, hk21n, hk30n, hq163, hq213, hq228, e])
                       refine (list_assign n ih m232.ps m232.rem (m232.lv HL.out) hle [93] 16384 (by decide) 0 HChc235.out (fun e => nomatch e)).mono ?_
                       rintro e w236 hpost
                       rcases hc235 : pRun n (.list lv [93] 16384 .assign 0) R.tail with ⟨tshc235, Rhc235⟩ | ⟨en, p⟩ | _
                       rotate_left
                       · rw [hc235] at hpost
                         have hb2 := Bad.trans m232.fr hpost
                         obtain ⟨rfl, _⟩ := hpost
                         exact ⟨rfl, PostN.bad hb2 (by simp [primaryB, need, name, fail, Res.bind, ok1, hk4n, hk12n, hk21n, hk30n, hq163, hq213, hq228, hc235])⟩
                       · exact absurd hc235 HChc235.out
                       rw [hc235] at hpost
                       obtain ⟨shc235, vhc235, khc235, rfl, mm, l237⟩ := hpost
                       have m238 := m232.call mm
                       have lt239 := g233.lt
                       have g233' := g233.fr mm.fr
                       have g240 := g233'
                       clear g233' g233
                       have nb241 : vhc235.ownBlock ≠ some w.heap.size := fun e => by have h1 := (l237.new _ e).2.1; have h2 := lt239; omega
                       have l242 := l237.older m232.fr.size
                       clear l237
                       have Hhc235 := hidden hc235
                       clear mm m232 hc235 HChc235
                       clear q234
                       have q243 := g240.c1)
                    | (go_at_call 57
                       refine (node_mid m238 l242 h.room 33 (hd R).pos []).mono ?_
                       rintro e w244 ⟨s246, k245, rfl, m247, hp⟩
                       have g240' := g240.kept hp nb241
                       clear hp m238
                       have g248 := g240'
                       clear g240' g240
                       clear q243
                       have q249 := g248.c1))
                clear q249
                go_wp2_with fail
                go_ret
                exact PostN.fin m247 (by simp [primaryB, need, name, fail, Res.bind, ok1, hk4n, hk12n, hk21n, hk30n, hq163, hq213, hq228, Hhc235.out])
              · refine (take_no m226.ps m226.rem [91] (by simpa using hq228)).mono ?_
                rintro e w250 ⟨rfl, hb⟩
                have g227' := g227.below hb
                have m251 := m226.below hb
                clear m226
                have g252 := g227'
                clear g227' g227
                clear hb
                have zt0 := g252.c0
                have zt1 := g252.c1
                have zt2 := g252.c2
                have zt3 := g252.c3
                have ztb : ¬ w.heap.size = c.bp := fun e => g252.free (.inl e)
                have ztc : ¬ c.bp = w.heap.size := fun e => g252.free (.inl e.symm)
                go_wp2_with fail
                clear zt0 zt1 zt2 zt3 ztb ztc
                by_cases hq253 : isTok (hd R) [123] = true
                · refine (take_yes m251.ps m251.rem [123] hq253).mono ?_
                  rintro e w254 ⟨rfl, hp, hf⟩
                  have m255 := m251.next hp hf
                  have g252' := g252.fr hf
                  have g256 := g252'
                  clear g252' g252
                  clear hp hf m251
                  have zt0 := g256.c0
                  have zt1 := g256.c1
                  have zt2 := g256.c2
                  have zt3 := g256.c3
                  have ztb : ¬ w.heap.size = c.bp := fun e => g256.free (.inl e)
                  have ztc : ¬ c.bp = w.heap.size := fun e => g256.free (.inl e.symm)
                  go_wp2_with fail
                  clear zt0 zt1 zt2 zt3 ztb ztc
                  have g256' := g256.below ((Below.refl _ _).drew)
                  have m257 := m255.below ((Below.refl _ _).drew)
                  clear m255
                  have g258 := g256'
                  clear g256' g256
                  have q259 := g258.c1
                  go_region_held2 (fun w' => w'.cell? ⟨w.heap.size, 1, none⟩ = some (.int .i64 (hd R).pos))
                    (first | assumption | go_keep)
                    (first
                      | (go_at_call 125
                         have HChc260 : Hid (pRun n (.list lv [125] 16384 .pair 0) R.tail ≠ .out) := fun e => HN.out (by simp [primaryB, need, name, fail, Res.bind, ok1, hk4n, hk12n, hk21n, hk30n, hq163, hq213, hq228, hq253, e])
                         refine (list_pair n ih m257.ps m257.rem (m257.lv HL.out) hle [125] 16384 (by decide) 0 HChc260.out (fun e => nomatch e)).mono ?_
                         rintro e w261 hpost
                         rcases hc260 : pRun n (.list lv [125] 16384 .pair 0) R.tail with ⟨tshc260, Rhc260⟩ | ⟨en, p⟩ | _
                         rotate_left
                         · rw [hc260] at hpost
                           have hb2 := Bad.trans m257.fr hpost
                           obtain ⟨rfl, _⟩ := hpost
                           exact ⟨rfl, PostN.bad hb2 (by simp [primaryB, need, name, fail, Res.bind, ok1, hk4n, hk12n, hk21n, hk30n, hq163, hq213, hq228, hq253, hc260])⟩
                         · exact absurd hc260 HChc260.out
                         rw [hc260] at hpost
                         obtain ⟨shc260, vhc260, khc260, rfl, mm, l262⟩ := hpost
                         have m263 := m257.call mm
                         have lt264 := g258.lt
                         have g258' := g258.fr mm.fr
                         have g265 := g258'
                         clear g258' g258
                         have nb266 : vhc260.ownBlock ≠ some w.heap.size := fun e => by have h1 := (l262.new _ e).2.1; have h2 := lt264; omega
                         have l267 := l262.older m257.fr.size
                         clear l262
                         have Hhc260 := hidden hc260
                         clear mm m257 hc260 HChc260
                         clear q259
                         have q268 := g265.c1)
                      | (go_at_call 57
                         refine (node_mid m263 l267 h.room 28 (hd R).pos []).mono ?_
                         rintro e w269 ⟨s271, k270, rfl, m272, hp⟩
                         have g265' := g265.kept hp nb266
                         clear hp m263
                         have g273 := g265'
                         clear g265' g265
                         clear q268
                         have q274 := g273.c1))
                  clear q274
                  go_wp2_with fail
                  go_ret
                  exact PostN.fin m272 (by simp [primaryB, need, name, fail, Res.bind, ok1, hk4n, hk12n, hk21n, hk30n, hq163, hq213, hq228, hq253, Hhc260.out])
                · refine (take_no m251.ps m251.rem [123] (by simpa using hq253)).mono ?_
                  rintro e w275 ⟨rfl, hb⟩
                  have g252' := g252.below hb
                  have m276 := m251.below hb
                  clear m251
                  have g277 := g252'
                  clear g252' g252
                  clear hb
                  have zt0 := g277.c0
                  have zt1 := g277.c1
                  have zt2 := g277.c2
                  have zt3 := g277.c3
                  have ztb : ¬ w.heap.size = c.bp := fun e => g277.free (.inl e)
                  have ztc : ¬ c.bp = w.heap.size := fun e => g277.free (.inl e.symm)
                  go_wp2_with fail
                  clear zt0 zt1 zt2 zt3 ztb ztc
                  refine (fail_calls m276.ps m276.rem 5).mono ?_
                  rintro e wz hbad
                  have hb2 := Bad.trans m276.fr hbad
                  obtain ⟨rfl, _⟩ := hbad
                  exact ⟨rfl, PostN.bad hb2 (by simp [primaryB, need, name, fail, Res.bind, ok1, hk4n, hk12n, hk21n, hk30n, hq163, hq213, hq228, hq253])⟩

end Go.Proofs.YtgdamcmfdhhheaaGreatDoor

/- The map of get and set, walked. -/
namespace Go.Proofs.YtgdamcmfdhhheaaGreatDoor
open Go.RowKit Bf

theorem run_getObj_map {w : World} {r : Nat} {es : Array MapEntry} {n : Nat} {P : Program} (h : w.heap[r]? = some (.map es n)) : (getObj r).run P w = .ok (.map es n) w := by
  simp [getObj, Sem.run, h]
theorem run_setObj_map {w : World} {r : Nat} {es : Array MapEntry} {n : Nat} {o : Obj} {P : Program} (h : w.heap[r]? = some (.map es n)) : (setObj r o).run P w = .ok () { w with heap := w.heap.setIfInBounds r o } := by
  simp [setObj, Sem.run, h]
theorem push_set (a : Array Obj) (o o' : Obj) : (a.push o).setIfInBounds a.size o' = a.push o' := by
  apply Array.ext'
  simp
theorem set_alloc (w : World) (o o' : Obj) : ({ w.alloc o with heap := (w.alloc o).heap.setIfInBounds w.heap.size o' } : World) = w.alloc o' := by
  show (⟨(w.heap.push o).setIfInBounds w.heap.size o', w.tape, w.drawn, w.os, w.output⟩ : World) = ⟨w.heap.push o', w.tape, w.drawn, w.os, w.output⟩
  rw [push_set]

def ent (k : Array UInt8) (v : Int) (n : Nat) : MapEntry := { key := .string ⟨k⟩, val := .int .u8 v, born := n }

theorem upd1 (w : World) : (Instr.mapUpdate 177 (.map (some w.heap.size)) (.string ⟨#[103, 101, 116]⟩) (.int .u8 30)).run Tryz.prog (w.alloc (.map #[] 0)) = .ok () (w.alloc (.map #[ent #[103, 101, 116] 30 0] 1)) := by
  have hu := Tryz.underlying177
  have hs := Tryz.underlying9
  have hn : (w.alloc (.map #[] 0)).heap[w.heap.size]? = some (.map #[] 0) := heap_alloc_new w (.map #[] 0)
  unfold Instr.mapUpdate
  simp only [Sem.run_bind, run_underlying hu, Result.andThen_ok, run_getObj_map hn]
  unfold Instr.checkKey Instr.findKey
  simp only [Sem.run_bind, run_underlying hs, Result.andThen_ok]
  simp [Instr.findNow, run_setObj_map hn]
  exact set_alloc w _ _

theorem upd2 (w : World) : (Instr.mapUpdate 177 (.map (some w.heap.size)) (.string ⟨#[115, 101, 116]⟩) (.int .u8 31)).run Tryz.prog (w.alloc (.map #[ent #[103, 101, 116] 30 0] 1)) = .ok () (w.alloc (.map #[ent #[103, 101, 116] 30 0, ent #[115, 101, 116] 31 1] 2)) := by
  have hu := Tryz.underlying177
  have hs := Tryz.underlying9
  have hn : (w.alloc (.map #[ent #[103, 101, 116] 30 0] 1)).heap[w.heap.size]? = some (.map #[ent #[103, 101, 116] 30 0] 1) := heap_alloc_new w _
  unfold Instr.mapUpdate
  simp only [Sem.run_bind, run_underlying hu, Result.andThen_ok, run_getObj_map hn]
  unfold Instr.checkKey Instr.findKey
  simp only [Sem.run_bind, run_underlying hs, Result.andThen_ok]
  have e : Instr.findNow .string (.string ⟨#[115, 101, 116]⟩) #[ent #[103, 101, 116] 30 0].toList 0 = some none := by kernel_rfl
  simp only [e, Sem.run_pure, Result.andThen_ok, run_setObj_map hn]
  exact congrArg (Result.ok ()) (set_alloc w _ _)

theorem beqBA (x l : List UInt8) : ((⟨x.toArray⟩ : ByteArray) == ⟨l.toArray⟩) = (x == l) := by
  change (x.toArray == l.toArray) = (x == l)
  simp

theorem find_gs (x : List UInt8) : Instr.findNow .string (.string ⟨x.toArray⟩) [ent #[103, 101, 116] 30 0, ent #[115, 101, 116] 31 1] 0 =
    some (if x == [103, 101, 116] then some (0, .int .u8 30) else if x == [115, 101, 116] then some (1, .int .u8 31) else none) := by
  simp only [Instr.findNow, Instr.sameNow, ent, beqBA x [103, 101, 116], beqBA x [115, 101, 116]]
  cases x == [103, 101, 116] <;> cases x == [115, 101, 116] <;> rfl

theorem look_gs (w : World) (x : List UInt8) : (Instr.lookup 177 (.map (some w.heap.size)) (.string ⟨x.toArray⟩) false).run Tryz.prog (w.alloc (.map #[ent #[103, 101, 116] 30 0, ent #[115, 101, 116] 31 1] 2)) =
    .ok (.int .u8 (pairKind x)) (w.alloc (.map #[ent #[103, 101, 116] 30 0, ent #[115, 101, 116] 31 1] 2)) := by
  have hu := Tryz.underlying177
  have hs := Tryz.underlying9
  have hz : ∀ w, (zeroValue 5).run Tryz.prog w = .ok (.int .u8 0) w := fun w => by kernel_rfl
  have hn : (w.alloc (.map #[ent #[103, 101, 116] 30 0, ent #[115, 101, 116] 31 1] 2)).heap[w.heap.size]? = some (.map #[ent #[103, 101, 116] 30 0, ent #[115, 101, 116] 31 1] 2) := heap_alloc_new w _
  unfold Instr.lookup
  simp only [Sem.run_bind, run_underlying hu, Result.andThen_ok, run_getObj_map hn, Sem.run_pure]
  unfold Instr.checkKey Instr.findKey
  simp only [Sem.run_bind, run_underlying hs, Result.andThen_ok, find_gs, pairKind]
  by_cases h1 : (x == [103, 101, 116]) = true
  · simp [h1]
  · by_cases h2 : (x == [115, 101, 116]) = true
    · simp [h1, h2]
    · simp [h1, h2, hz]

end Go.Proofs.YtgdamcmfdhhheaaGreatDoor
