/- A pair, walked. -/
import Derived.Test.YtgdamcmfdhhheaaGreatDoorMA4
import Derived.Deep.LoopGhost
import Derived.Deep.RegionHeld2
import Derived.Deep.RegionWith
import Derived.Deep.AppendLies
set_option linter.all false

namespace Go.Proofs.YtgdamcmfdhhheaaGreatDoor
open Go.RowKit Bf

set_option maxRecDepth 100000 in
set_option maxHeartbeats 8000000 in
theorem pair_step (n : Nat) (ih : All n) : CallN 155 [] .pair (n + 1) := by
  intro c w s R lv h hr hlv hle hne
  change Calls _ _ #[.pointer (some ⟨c.bp, 0, none⟩)] w (PostN c w s (pairB (pRun n) lv R))
  have HN : Hid (pairB (pRun n) lv R ≠ .out) := hne
  have HL : Hid (s.lv = (lv : Int)) := hlv
  clear hne hlv
  have m0 := Mid.start h hr
  clear hr
  obtain ⟨i0, hi0, hz0, hz1, hz2⟩ := info_parts Tryz.infoInt
  go_enter Tryz.func155, Tryz.ntmps155
  have h0 := m0.ps.c0
  have h1 := m0.ps.c1
  have hbp := m0.ps.bp_lt
  have hbl := m0.ps.bl_lt
  have hi := m0.ps.i
  have hlen := m0.ps.len
  have t0 := m0.ps.t0 m0.rem
  have t1 := m0.ps.t1 m0.rem
  have t2 := m0.ps.t2 m0.rem
  have t3 := m0.ps.t3 m0.rem
  go_wp2
  go_region
  clear h0 h1 hbp hbl hi hlen t0 t1 t2 t3
  obtain ⟨m2, g1⟩ := m0.held
  clear m0
  change Mid c w s ((w.alloc (.cells #[.int .u8 (hd R).kind, .int .i64 (hd R).pos, .string ⟨(hd R).text.toArray⟩, .float .f64 (hd R).num] 59)).drew) _ _ _ _ _ at m2
  change Held c ((w.alloc (.cells #[.int .u8 (hd R).kind, .int .i64 (hd R).pos, .string ⟨(hd R).text.toArray⟩, .float .f64 (hd R).num] 59)).drew) _ _ _ at g1
  generalize ((w.alloc (.cells #[.int .u8 (hd R).kind, .int .i64 (hd R).pos, .string ⟨(hd R).text.toArray⟩, .float .f64 (hd R).num] 59)).drew) = w3 at m2 g1 ⊢
  have hmm := @run_makeMap Tryz.prog
  have hm1 := upd1
  have hm2 := upd2
  have hm3 := look_gs
  have zt0 := g1.c0
  have zt1 := g1.c1
  have zt2 := g1.c2
  have zt3 := g1.c3
  have ztb : ¬ w.heap.size = c.bp := fun e => g1.free (.inl e)
  have ztc : ¬ c.bp = w.heap.size := fun e => g1.free (.inl e.symm)
  have ztl := g1.lt
  by_cases hk4 : ((hd R).kind == 1) = true
  · have hk4a : (((hd R).kind : Int) == 1) = true := by rw [← hk4]; exact beqK _ 1
    have hk4b : ((hd R).kind : Int) = 1 := by simp at hk4; omega
    by_cases hs5 : (pairKind (hd R).text == 0) = true
    · have hp1 : (((pairKind (hd R).text : Nat) : Int) == 0) = true := by rw [← hs5]; exact beqK _ 0
      have hp2 : ((pairKind (hd R).text : Nat) : Int) = 0 := by simp at hs5; omega
      go_wp2_with fail
      clear hp1 hp2
      clear hm1 hm2 hm3 hmm zt0 zt1 zt2 zt3 ztb ztc ztl
      have g1' := g1.below ((Below.refl _ _).alloc (Nat.le_refl _) (.map #[ent #[103, 101, 116] 30 0, ent #[115, 101, 116] 31 1] 2))
      have m6 := m2.below ((Below.refl _ _).alloc (Nat.le_refl _) (.map #[ent #[103, 101, 116] 30 0, ent #[115, 101, 116] 31 1] 2))
      clear m2
      have g7 := g1'
      clear g1' g1
      generalize w3.alloc (.map #[ent #[103, 101, 116] 30 0, ent #[115, 101, 116] 31 1] 2) = w8 at m6 g7 ⊢
      have HChc9 : Hid (pRun n (.key lv) R ≠ .out) := fun e => HN.out (by simp [pairB, need, name, fail, Res.bind, ok1, hk4, hs5, e])
      refine (ih.key _ _ _ _ _ m6.ps m6.rem (m6.lv HL.out) hle HChc9.out).mono ?_
      rintro e w10 hpost
      rcases hc9 : pRun n (.key lv) R with ⟨tshc9, Rhc9⟩ | ⟨en, p⟩ | _
      rotate_left
      · rw [hc9] at hpost
        have hb2 := Bad.trans m6.fr hpost
        obtain ⟨rfl, _⟩ := hpost
        exact ⟨rfl, PostN.bad hb2 (by simp [pairB, need, name, fail, Res.bind, ok1, hk4, hs5, hc9])⟩
      · exact absurd hc9 HChc9.out
      rw [hc9] at hpost
      obtain ⟨shc9, khc9, thc9, rfl, rfl, mm⟩ := hpost
      have m11 := m6.call mm
      have g7' := g7.fr mm.fr
      have g12 := g7'
      clear g7' g7
      have Hhc9 := hidden hc9
      clear mm m6 hc9 HChc9
      have zt0 := g12.c0
      have zt1 := g12.c1
      have zt2 := g12.c2
      have zt3 := g12.c3
      have ztb : ¬ w.heap.size = c.bp := fun e => g12.free (.inl e)
      have ztc : ¬ c.bp = w.heap.size := fun e => g12.free (.inl e.symm)
      have ztl := g12.lt
      go_wp2_with fail
      clear zt0 zt1 zt2 zt3 ztb ztc ztl
      by_cases hx13 : isTok (hd Rhc9) [58] = true
      rotate_left
      · refine (need_no m11.ps m11.rem [58] (by simpa using hx13)).mono ?_
        rintro e wz hbad
        have hb2 := Bad.trans m11.fr hbad
        obtain ⟨rfl, _⟩ := hbad
        exact ⟨rfl, PostN.bad hb2 (by simp [pairB, need, name, fail, Res.bind, ok1, hk4, hs5, Hhc9.out, hx13])⟩
      refine (need_yes m11.ps m11.rem [58] hx13).mono ?_
      rintro e w14 ⟨rfl, hp, hf⟩
      have m15 := m11.next hp hf
      have g12' := g12.fr hf
      have g16 := g12'
      clear g12' g12
      clear hp hf m11
      have zt0 := g16.c0
      have zt1 := g16.c1
      have zt2 := g16.c2
      have zt3 := g16.c3
      have ztb : ¬ w.heap.size = c.bp := fun e => g16.free (.inl e)
      have ztc : ¬ c.bp = w.heap.size := fun e => g16.free (.inl e.symm)
      have ztl := g16.lt
      go_wp2_with fail
      clear zt0 zt1 zt2 zt3 ztb ztc ztl
      have g16' := g16.below ((Below.refl _ _).drew)
      have m17 := m15.below ((Below.refl _ _).drew)
      clear m15
      have g18 := g16'
      clear g16' g16
      have q19 := g18.c1
      have q20 := g18.lt
      go_region_held2 (fun w' => w'.cell? ⟨w.heap.size, 1, none⟩ = some (.int .i64 (hd R).pos))
        (first | assumption | go_keep)
        (first
          | (go_at_call 102
             have HChc21 : Hid (pRun n (.assign lv) Rhc9.tail ≠ .out) := fun e => HN.out (by simp [pairB, need, name, fail, Res.bind, ok1, hk4, hs5, Hhc9.out, hx13, e])
             refine (ih.assign _ _ _ _ _ m17.ps m17.rem (m17.lv HL.out) hle HChc21.out).mono ?_
             rintro e w22 hpost
             rcases hc21 : pRun n (.assign lv) Rhc9.tail with ⟨tshc21, Rhc21⟩ | ⟨en, p⟩ | _
             rotate_left
             · rw [hc21] at hpost
               have hb2 := Bad.trans m17.fr hpost
               obtain ⟨rfl, _⟩ := hpost
               exact ⟨rfl, PostN.bad hb2 (by simp [pairB, need, name, fail, Res.bind, ok1, hk4, hs5, Hhc9.out, hx13, hc21])⟩
             · exact absurd hc21 HChc21.out
             rw [hc21] at hpost
             obtain ⟨shc21, khc21, thc21, rfl, rfl, mm⟩ := hpost
             have m23 := m17.call mm
             have g18' := g18.fr mm.fr
             have g24 := g18'
             clear g18' g18
             have Hhc21 := hidden hc21
             clear mm m17 hc21 HChc21
             clear q19
             clear q20
             have q25 := g24.c1
             have q26 := g24.lt)
          | (go_at_call 57
             have nb28 : (Value.slice (some ⟨w22.heap.size, 0, none⟩) 2 2).ownBlock ≠ some w.heap.size := by have := g24.lt; simp [Value.ownBlock]; omega
             have l27 : Lst c w (w22.alloc (.cells #[.int .i64 khc9, .int .i64 khc21] 3)) _ (.slice (some ⟨w22.heap.size, 0, none⟩) 2 2) [khc9, khc21] := Lst.made m23 [khc9, khc21] (by simp)
             have g24' := g24.below ((Below.refl _ _).alloc (Nat.le_refl _) (.cells #[.int .i64 khc9, .int .i64 khc21] 3))
             have m29 := m23.below ((Below.refl _ _).alloc (Nat.le_refl _) (.cells #[.int .i64 khc9, .int .i64 khc21] 3))
             clear m23
             have g30 := g24'
             clear g24' g24
             generalize w22.alloc (.cells #[.int .i64 khc9, .int .i64 khc21] 3) = w31 at m29 l27 g30 ⊢
             refine (node_mid m29 l27 h.room 29 (hd R).pos []).mono ?_
             rintro e w32 ⟨s34, k33, rfl, m35, hp⟩
             have g30' := g30.kept hp nb28
             clear hp m29
             have g36 := g30'
             clear g30' g30
             clear q25
             clear q26
             have q37 := g36.c1
             have q38 := g36.lt))
      clear q37
      clear q38
      go_wp2_with fail
      go_ret
      exact PostN.fin m35 (by simp [pairB, need, name, fail, Res.bind, ok1, hk4, hs5, Hhc9.out, hx13, Hhc21.out])
    · have hs5n : (pairKind (hd R).text == 0) = false := by simpa using hs5
      have hp1 : (((pairKind (hd R).text : Nat) : Int) == 0) = false := by rw [← hs5n]; exact beqK _ 0
      have hp2 : ¬ ((pairKind (hd R).text : Nat) : Int) = 0 := by simp at hs5; omega
      clear hs5
      go_wp2_with fail
      clear hp1
      clear hm1 hm2 hm3 hmm zt0 zt1 zt2 zt3 ztb ztc ztl
      have g1' := g1.below ((Below.refl _ _).alloc (Nat.le_refl _) (.map #[ent #[103, 101, 116] 30 0, ent #[115, 101, 116] 31 1] 2))
      have m39 := m2.below ((Below.refl _ _).alloc (Nat.le_refl _) (.map #[ent #[103, 101, 116] 30 0, ent #[115, 101, 116] 31 1] 2))
      clear m2
      have g40 := g1'
      clear g1' g1
      generalize w3.alloc (.map #[ent #[103, 101, 116] 30 0, ent #[115, 101, 116] 31 1] 2) = w41 at m39 g40 ⊢
      refine (is2_more m39.ps m39.rem [58] (by simp at hk4; omega)).mono ?_
      rintro e wi ⟨rfl, hb⟩
      have g40' := g40.below hb
      have m42 := m39.below hb
      clear m39
      have g43 := g40'
      clear g40' g40
      clear hb
      by_cases hs44 : is2 [58] R = true
      · skip
        have zt0 := g43.c0
        have zt1 := g43.c1
        have zt2 := g43.c2
        have zt3 := g43.c3
        have ztb : ¬ w.heap.size = c.bp := fun e => g43.free (.inl e)
        have ztc : ¬ c.bp = w.heap.size := fun e => g43.free (.inl e.symm)
        have ztl := g43.lt
        go_wp2_with fail
        clear zt0 zt1 zt2 zt3 ztb ztc ztl
        have HChc45 : Hid (pRun n (.key lv) R ≠ .out) := fun e => HN.out (by simp [pairB, need, name, fail, Res.bind, ok1, hk4, hs5n, hs44, e])
        refine (ih.key _ _ _ _ _ m42.ps m42.rem (m42.lv HL.out) hle HChc45.out).mono ?_
        rintro e w46 hpost
        rcases hc45 : pRun n (.key lv) R with ⟨tshc45, Rhc45⟩ | ⟨en, p⟩ | _
        rotate_left
        · rw [hc45] at hpost
          have hb2 := Bad.trans m42.fr hpost
          obtain ⟨rfl, _⟩ := hpost
          exact ⟨rfl, PostN.bad hb2 (by simp [pairB, need, name, fail, Res.bind, ok1, hk4, hs5n, hs44, hc45])⟩
        · exact absurd hc45 HChc45.out
        rw [hc45] at hpost
        obtain ⟨shc45, khc45, thc45, rfl, rfl, mm⟩ := hpost
        have m47 := m42.call mm
        have g43' := g43.fr mm.fr
        have g48 := g43'
        clear g43' g43
        have Hhc45 := hidden hc45
        clear mm m42 hc45 HChc45
        have zt0 := g48.c0
        have zt1 := g48.c1
        have zt2 := g48.c2
        have zt3 := g48.c3
        have ztb : ¬ w.heap.size = c.bp := fun e => g48.free (.inl e)
        have ztc : ¬ c.bp = w.heap.size := fun e => g48.free (.inl e.symm)
        have ztl := g48.lt
        go_wp2_with fail
        clear zt0 zt1 zt2 zt3 ztb ztc ztl
        by_cases hx49 : isTok (hd Rhc45) [58] = true
        rotate_left
        · refine (need_no m47.ps m47.rem [58] (by simpa using hx49)).mono ?_
          rintro e wz hbad
          have hb2 := Bad.trans m47.fr hbad
          obtain ⟨rfl, _⟩ := hbad
          exact ⟨rfl, PostN.bad hb2 (by simp [pairB, need, name, fail, Res.bind, ok1, hk4, hs5n, hs44, Hhc45.out, hx49])⟩
        refine (need_yes m47.ps m47.rem [58] hx49).mono ?_
        rintro e w50 ⟨rfl, hp, hf⟩
        have m51 := m47.next hp hf
        have g48' := g48.fr hf
        have g52 := g48'
        clear g48' g48
        clear hp hf m47
        have zt0 := g52.c0
        have zt1 := g52.c1
        have zt2 := g52.c2
        have zt3 := g52.c3
        have ztb : ¬ w.heap.size = c.bp := fun e => g52.free (.inl e)
        have ztc : ¬ c.bp = w.heap.size := fun e => g52.free (.inl e.symm)
        have ztl := g52.lt
        go_wp2_with fail
        clear zt0 zt1 zt2 zt3 ztb ztc ztl
        have g52' := g52.below ((Below.refl _ _).drew)
        have m53 := m51.below ((Below.refl _ _).drew)
        clear m51
        have g54 := g52'
        clear g52' g52
        have q55 := g54.c1
        have q56 := g54.lt
        go_region_held2 (fun w' => w'.cell? ⟨w.heap.size, 1, none⟩ = some (.int .i64 (hd R).pos))
          (first | assumption | go_keep)
          (first
            | (go_at_call 102
               have HChc57 : Hid (pRun n (.assign lv) Rhc45.tail ≠ .out) := fun e => HN.out (by simp [pairB, need, name, fail, Res.bind, ok1, hk4, hs5n, hs44, Hhc45.out, hx49, e])
               refine (ih.assign _ _ _ _ _ m53.ps m53.rem (m53.lv HL.out) hle HChc57.out).mono ?_
               rintro e w58 hpost
               rcases hc57 : pRun n (.assign lv) Rhc45.tail with ⟨tshc57, Rhc57⟩ | ⟨en, p⟩ | _
               rotate_left
               · rw [hc57] at hpost
                 have hb2 := Bad.trans m53.fr hpost
                 obtain ⟨rfl, _⟩ := hpost
                 exact ⟨rfl, PostN.bad hb2 (by simp [pairB, need, name, fail, Res.bind, ok1, hk4, hs5n, hs44, Hhc45.out, hx49, hc57])⟩
               · exact absurd hc57 HChc57.out
               rw [hc57] at hpost
               obtain ⟨shc57, khc57, thc57, rfl, rfl, mm⟩ := hpost
               have m59 := m53.call mm
               have g54' := g54.fr mm.fr
               have g60 := g54'
               clear g54' g54
               have Hhc57 := hidden hc57
               clear mm m53 hc57 HChc57
               clear q55
               clear q56
               have q61 := g60.c1
               have q62 := g60.lt)
            | (go_at_call 57
               have nb64 : (Value.slice (some ⟨w58.heap.size, 0, none⟩) 2 2).ownBlock ≠ some w.heap.size := by have := g60.lt; simp [Value.ownBlock]; omega
               have l63 : Lst c w (w58.alloc (.cells #[.int .i64 khc45, .int .i64 khc57] 3)) _ (.slice (some ⟨w58.heap.size, 0, none⟩) 2 2) [khc45, khc57] := Lst.made m59 [khc45, khc57] (by simp)
               have g60' := g60.below ((Below.refl _ _).alloc (Nat.le_refl _) (.cells #[.int .i64 khc45, .int .i64 khc57] 3))
               have m65 := m59.below ((Below.refl _ _).alloc (Nat.le_refl _) (.cells #[.int .i64 khc45, .int .i64 khc57] 3))
               clear m59
               have g66 := g60'
               clear g60' g60
               generalize w58.alloc (.cells #[.int .i64 khc45, .int .i64 khc57] 3) = w67 at m65 l63 g66 ⊢
               refine (node_mid m65 l63 h.room 29 (hd R).pos []).mono ?_
               rintro e w68 ⟨s70, k69, rfl, m71, hp⟩
               have g66' := g66.kept hp nb64
               clear hp m65
               have g72 := g66'
               clear g66' g66
               clear q61
               clear q62
               have q73 := g72.c1
               have q74 := g72.lt))
        clear q73
        clear q74
        go_wp2_with fail
        go_ret
        exact PostN.fin m71 (by simp [pairB, need, name, fail, Res.bind, ok1, hk4, hs5n, hs44, Hhc45.out, hx49, Hhc57.out])
      · have hs44n : is2 [58] R = false := by simpa using hs44
        clear hs44
        have zt0 := g43.c0
        have zt1 := g43.c1
        have zt2 := g43.c2
        have zt3 := g43.c3
        have ztb : ¬ w.heap.size = c.bp := fun e => g43.free (.inl e)
        have ztc : ¬ c.bp = w.heap.size := fun e => g43.free (.inl e.symm)
        have ztl := g43.lt
        have hmore := m42.ps.more m42.rem (by simp at hk4; omega)
        have h1 := m42.ps.c1
        have fz1 := m42.ps.fz 1
        have hlen := m42.ps.len
        have hnx := m42.ps.next hmore
        have m75 := m42.next hnx.1 hnx.2
        have g43' := g43.fr hnx.2
        have g76 := g43'
        clear g43' g43
        go_wp2_with fail
        clear h1 fz1 hlen hnx hmore zt0 zt1 zt2 zt3 ztb ztc ztl m42
        generalize (wi.setCell ⟨c.bp, 1, none⟩ (.int .i64 (((s).i : Int) + 1))) = w77 at m75 g76 ⊢
        have HChc78 : Hid (pRun n (.key lv) R.tail ≠ .out) := fun e => HN.out (by simp [pairB, need, name, fail, Res.bind, ok1, hk4, hs5n, hs44n, e])
        refine (ih.key _ _ _ _ _ m75.ps m75.rem (m75.lv HL.out) hle HChc78.out).mono ?_
        rintro e w79 hpost
        rcases hc78 : pRun n (.key lv) R.tail with ⟨tshc78, Rhc78⟩ | ⟨en, p⟩ | _
        rotate_left
        · rw [hc78] at hpost
          have hb2 := Bad.trans m75.fr hpost
          obtain ⟨rfl, _⟩ := hpost
          exact ⟨rfl, PostN.bad hb2 (by simp [pairB, need, name, fail, Res.bind, ok1, hk4, hs5n, hs44n, hc78])⟩
        · exact absurd hc78 HChc78.out
        rw [hc78] at hpost
        obtain ⟨shc78, khc78, thc78, rfl, rfl, mm⟩ := hpost
        have m80 := m75.call mm
        have g76' := g76.fr mm.fr
        have g81 := g76'
        clear g76' g76
        have Hhc78 := hidden hc78
        clear mm m75 hc78 HChc78
        have m82 := Mid.start m80.ps m80.rem
        have HL83 := hidden (m80.lv HL.out)
        have h0 := m82.ps.c0
        have h1 := m82.ps.c1
        have hbp := m82.ps.bp_lt
        have hbl := m82.ps.bl_lt
        have hi := m82.ps.i
        have hlen := m82.ps.len
        have t0 := m82.ps.t0 m82.rem
        have t1 := m82.ps.t1 m82.rem
        have t2 := m82.ps.t2 m82.rem
        have t3 := m82.ps.t3 m82.rem
        go_wp2
        go_region
        clear h0 h1 hbp hbl hi hlen t0 t1 t2 t3
        have g81' := g81.below ((Below.refl _ _).drew)
        have m84 := m82.below ((Below.refl _ _).drew)
        clear m82
        have g85 := g81'
        clear g81' g81
        generalize w79.drew = w86 at m84 g85 ⊢
        have zt0 := g85.c0
        have zt1 := g85.c1
        have zt2 := g85.c2
        have zt3 := g85.c3
        have ztb : ¬ w.heap.size = c.bp := fun e => g85.free (.inl e)
        have ztc : ¬ c.bp = w.heap.size := fun e => g85.free (.inl e.symm)
        have ztl := g85.lt
        go_wp2_with fail
        clear zt0 zt1 zt2 zt3 ztb ztc ztl
        by_cases hx87 : isTok (hd Rhc78) [40] = true
        rotate_left
        · refine (need_no m84.ps m84.rem [40] (by simpa using hx87)).mono ?_
          rintro e wz hbad
          have hb2 := Bad.trans m80.fr (Bad.trans m84.fr hbad)
          obtain ⟨rfl, _⟩ := hbad
          exact ⟨rfl, PostN.bad hb2 (by simp [pairB, need, name, fail, Res.bind, ok1, hk4, hs5n, hs44n, Hhc78.out, hx87])⟩
        refine (need_yes m84.ps m84.rem [40] hx87).mono ?_
        rintro e w88 ⟨rfl, hp, hf⟩
        have m89 := m84.next hp hf
        have g85' := g85.fr hf
        have g90 := g85'
        clear g85' g85
        clear hp hf m84
        by_cases hs91 : (pairKind (hd R).text == 31) = true
        · have hp1 : (((pairKind (hd R).text : Nat) : Int) == 31) = true := by rw [← hs91]; exact beqK _ 31
          have h0 := m89.ps.c0
          have h1 := m89.ps.c1
          have hbp := m89.ps.bp_lt
          have hbl := m89.ps.bl_lt
          have hi := m89.ps.i
          have hlen := m89.ps.len
          have t0 := m89.ps.t0 m89.rem
          have t1 := m89.ps.t1 m89.rem
          have t2 := m89.ps.t2 m89.rem
          have t3 := m89.ps.t3 m89.rem
          go_wp2
          go_region
          clear h0 h1 hbp hbl hi hlen t0 t1 t2 t3
          have g90' := g90.below ((Below.refl _ _).drew)
          have m92 := m89.below ((Below.refl _ _).drew)
          clear m89
          have g93 := g90'
          clear g90' g90
          generalize w88.drew = w94 at m92 g93 ⊢
          have zt0 := g93.c0
          have zt1 := g93.c1
          have zt2 := g93.c2
          have zt3 := g93.c3
          have ztb : ¬ w.heap.size = c.bp := fun e => g93.free (.inl e)
          have ztc : ¬ c.bp = w.heap.size := fun e => g93.free (.inl e.symm)
          have ztl := g93.lt
          go_wp2_with fail
          clear zt0 zt1 zt2 zt3 ztb ztc ztl
          clear hp1
          have m95 := Mid.start m92.ps m92.rem
          have HL96 := hidden (m92.lv HL83.out)
          by_cases hx97 : ((hd Rhc78.tail).kind == 1) = true
          rotate_left
          · refine (name_no m95.ps m95.rem (by simpa using hx97)).mono ?_
            rintro e wz hbad
            have hb2 := Bad.trans m80.fr (Bad.trans m92.fr (Bad.trans m95.fr hbad))
            obtain ⟨rfl, _⟩ := hbad
            exact ⟨rfl, PostN.bad hb2 (by simp [pairB, need, name, fail, Res.bind, ok1, hk4, hs5n, hs44n, Hhc78.out, hx87, hs91, hx97])⟩
          refine (name_yes m95.ps m95.rem hx97).mono ?_
          rintro e w98 ⟨rfl, hp, hf⟩
          have m99 := m95.next hp hf
          have g93' := g93.fr hf
          have g100 := g93'
          clear g93' g93
          clear hp hf m95
          have zt0 := g100.c0
          have zt1 := g100.c1
          have zt2 := g100.c2
          have zt3 := g100.c3
          have ztb : ¬ w.heap.size = c.bp := fun e => g100.free (.inl e)
          have ztc : ¬ c.bp = w.heap.size := fun e => g100.free (.inl e.symm)
          have ztl := g100.lt
          go_wp2_with fail
          clear zt0 zt1 zt2 zt3 ztb ztc ztl
          refine (node_mid m99 Lst.nil m92.ps.room 26 (hd Rhc78.tail).pos (hd Rhc78.tail).text).mono ?_
          rintro e w101 ⟨s103, k102, rfl, m104, hp⟩
          have g100' := g100.kept hp (by simp [Value.ownBlock])
          clear hp m99
          have g105 := g100'
          clear g100' g100
          have m106 := m92.call m104
          clear m92 m104
          have hbase := m106.ps.bp_lt
          have hkl := m106.kids_le
          have l0 : Lst c w79 w101 (s103) (.slice none 0 0) ([] : List Nat) := Lst.nil
          have hrow := l0.row
          go_wp2_with (at_builtin; refine wpList_append_lies _ rfl _ _ 30 rfl (c.bp + 1) 3 i0 _ 1 8 Tryz.underlying30 hi0 hz0 hz1 hz2 rfl (by decide) (.slice none 0 0) (([] : List Nat)).length (ints ([] : List Nat)) rfl (World.ownsRow.alloc hrow _) ⟨w101.heap.size, 0, none⟩ 1 1 [.int .i64 k102] rfl rfl ?c1 ?c2 ?c3 ?c4 ?c5 ?c6 (w101.heap.size + 1) ?c7 ?_)
          case c1 => exact World.news_of_block (cs := #[.int .i64 k102]) (t := 3) (fr := (0, 0)) (heap_alloc_new w101 _)
          case c2 => simp [Value.oneCell']
          case c3 => decide
          case c4 => unfold maxLen; first | omega | (simp at hkl ⊢; done) | (simp at hkl ⊢; omega)
          case c5 => first | omega | (simp at hkl ⊢; done) | (simp at hkl ⊢; omega)
          case c6 => simp; omega
          case c7 => simp
          intro g107 cap108 w109 hown hgrow hat hlt
          have nb112 : (Value.slice (some ⟨g107, 0, none⟩) ((([] : List Nat)).length + 1) cap108).ownBlock ≠ some w.heap.size := by
            intro e
            have e' : g107 = w.heap.size := by simpa [Value.ownBlock] using e
            rcases hat with h1 | h1
            · simp [Value.ownBlock] at h1
            · have := g105.lt; omega
          have hgg113 := grownBy_trans (World.grownBy_alloc w101 _ none) hgrow
          have g105' := g105.grown hgg113 (by simp [Value.ownBlock])
          obtain ⟨m110, l111⟩ := m106.append l0 (World.grownBy_alloc w101 _ none) hgrow hown (hat.imp id (by omega))
          clear hown hgrow hat hlt hrow l0 hbase hkl m106
          have g114 := g105'
          clear g105' g105
          have zt0 := g114.c0
          have zt1 := g114.c1
          have zt2 := g114.c2
          have zt3 := g114.c3
          have ztb : ¬ w.heap.size = c.bp := fun e => g114.free (.inl e)
          have ztc : ¬ c.bp = w.heap.size := fun e => g114.free (.inl e.symm)
          have ztl := g114.lt
          go_wp2_with fail
          clear zt0 zt1 zt2 zt3 ztb ztc ztl
          by_cases hx115 : isTok (hd Rhc78.tail.tail) [41] = true
          rotate_left
          · refine (need_no m110.ps m110.rem [41] (by simpa using hx115)).mono ?_
            rintro e wz hbad
            have hb2 := Bad.trans m80.fr (Bad.trans m110.fr hbad)
            obtain ⟨rfl, _⟩ := hbad
            exact ⟨rfl, PostN.bad hb2 (by simp [pairB, need, name, fail, Res.bind, ok1, hk4, hs5n, hs44n, Hhc78.out, hx87, hs91, hx97, hx115])⟩
          refine (need_yes m110.ps m110.rem [41] hx115).mono ?_
          rintro e w116 ⟨rfl, hp, hf⟩
          have m117 := m110.next hp hf
          have l111' := l111.fr hf
          have g114' := g114.fr hf
          have l118 := l111'
          clear l111' l111
          have g119 := g114'
          clear g114' g114
          clear hp hf m110
          have zt0 := g119.c0
          have zt1 := g119.c1
          have zt2 := g119.c2
          have zt3 := g119.c3
          have ztb : ¬ w.heap.size = c.bp := fun e => g119.free (.inl e)
          have ztc : ¬ c.bp = w.heap.size := fun e => g119.free (.inl e.symm)
          have ztl := g119.lt
          go_wp2_with fail
          clear zt0 zt1 zt2 zt3 ztb ztc ztl
          have l118' := l118.below ((Below.refl _ _).drew)
          have g119' := g119.below ((Below.refl _ _).drew)
          have m120 := m117.below ((Below.refl _ _).drew)
          clear m117
          have l121 := l118'
          clear l118' l118
          have g122 := g119'
          clear g119' g119
          have q123 := g122.c1
          have q124 := g122.lt
          go_region_held2 (fun w' => w'.cell? ⟨w.heap.size, 1, none⟩ = some (.int .i64 (hd R).pos))
            (first | assumption | go_keep)
            (first
              | (go_at_call 91
                 have HChc125 : Hid (pRun n (.block lv) Rhc78.tail.tail.tail ≠ .out) := fun e => HN.out (by simp [pairB, need, name, fail, Res.bind, ok1, hk4, hs5n, hs44n, Hhc78.out, hx87, hs91, hx97, hx115, e])
                 refine (ih.block _ _ _ _ _ m120.ps m120.rem (m120.lv HL83.out) hle HChc125.out).mono ?_
                 rintro e w126 hpost
                 rcases hc125 : pRun n (.block lv) Rhc78.tail.tail.tail with ⟨tshc125, Rhc125⟩ | ⟨en, p⟩ | _
                 rotate_left
                 · rw [hc125] at hpost
                   have hb2 := Bad.trans m80.fr (Bad.trans m120.fr hpost)
                   obtain ⟨rfl, _⟩ := hpost
                   exact ⟨rfl, PostN.bad hb2 (by simp [pairB, need, name, fail, Res.bind, ok1, hk4, hs5n, hs44n, Hhc78.out, hx87, hs91, hx97, hx115, hc125])⟩
                 · exact absurd hc125 HChc125.out
                 rw [hc125] at hpost
                 obtain ⟨shc125, khc125, thc125, rfl, rfl, mm⟩ := hpost
                 have m127 := m120.call mm
                 have l121' := l121.fr mm.fr
                 have g122' := g122.fr mm.fr
                 have l128 := l121'
                 clear l121' l121
                 have g129 := g122'
                 clear g122' g122
                 have Hhc125 := hidden hc125
                 clear mm m120 hc125 HChc125
                 clear q123
                 clear q124
                 have q130 := g129.c1
                 have q131 := g129.lt)
              | (go_at_call_of 57 (Value.int IntKind.u8 27)
                 refine (node_mid m135 l136 m80.ps.room 27 (hd Rhc78).pos []).mono ?_
                 rintro e w142 ⟨s144, k143, rfl, m145, hp⟩
                 have g139' := g139.kept hp nb137
                 clear hp m135
                 have g146 := g139'
                 clear g139' g139
                 have m147 := m80.call m145
                 clear m80 m145
                 clear q140
                 clear q141
                 have q148 := g146.c1
                 have q149 := g146.lt)
              | (go_at_call 57
                 have nb151 : (Value.slice (some ⟨w142.heap.size, 0, none⟩) 2 2).ownBlock ≠ some w.heap.size := by have := g146.lt; simp [Value.ownBlock]; omega
                 have l150 : Lst c w (w142.alloc (.cells #[.int .i64 khc78, .int .i64 k143] 3)) _ (.slice (some ⟨w142.heap.size, 0, none⟩) 2 2) [khc78, k143] := Lst.made m147 [khc78, k143] (by simp)
                 have g146' := g146.below ((Below.refl _ _).alloc (Nat.le_refl _) (.cells #[.int .i64 khc78, .int .i64 k143] 3))
                 have m152 := m147.below ((Below.refl _ _).alloc (Nat.le_refl _) (.cells #[.int .i64 khc78, .int .i64 k143] 3))
                 clear m147
                 have g153 := g146'
                 clear g146' g146
                 generalize w142.alloc (.cells #[.int .i64 khc78, .int .i64 k143] 3) = w154 at m152 l150 g153 ⊢
                 refine (node_mid m152 l150 h.room (pairKind (hd R).text) (hd R).pos []).mono ?_
                 rintro e w155 ⟨s157, k156, rfl, m158, hp⟩
                 have g153' := g153.kept hp nb151
                 clear hp m152
                 have g159 := g153'
                 clear g153' g153
                 clear q148
                 clear q149
                 have q160 := g159.c1
                 have q161 := g159.lt)
              | (skip
                 have hbase := m127.ps.bp_lt
                 have hkl := m127.kids_le
                 have l0 : Lst c w79 w126 (shc125) (.slice (some ⟨g107, 0, none⟩) ((([] : List Nat)).length + 1) cap108) [k102] := l128
                 have hrow := l0.row
                 refine step_append_lies _ (by rfl) _ _ _ (by rfl) (c.bp + 1) 3 i0 _ 1 8 Tryz.underlying30 hi0 hz0 hz1 hz2 rfl (by decide) (.slice (some ⟨g107, 0, none⟩) ((([] : List Nat)).length + 1) cap108) ([k102]).length (ints [k102]) (by rfl) (World.ownsRow.alloc hrow _) ⟨w126.heap.size, 0, none⟩ 1 1 [.int .i64 khc125] (by rfl) (by rfl) (World.news_of_block (cs := #[.int .i64 khc125]) (t := 3) (fr := (0, 0)) (heap_alloc_new w126 _)) (by simp [Value.oneCell']) (by decide) (by unfold maxLen; first | omega | (simp at hkl ⊢; done) | (simp at hkl ⊢; omega)) (by first | omega | (simp at hkl ⊢; done) | (simp at hkl ⊢; omega)) (by simp; omega) (w126.heap.size + 1) (by simp) ?_
                 intro g132 cap133 w134 hown hgrow hat hlt
                 have nb137 : (Value.slice (some ⟨g132, 0, none⟩) (([k102]).length + 1) cap133).ownBlock ≠ some w.heap.size := by
                   intro e
                   have e' : g132 = w.heap.size := by simpa [Value.ownBlock] using e
                   rcases hat with h1 | h1
                   · exact nb112 (h1.trans (by rw [e']))
                   · have := g129.lt; omega
                 have hgg138 := grownBy_trans (World.grownBy_alloc w126 _ none) hgrow
                 have g129' := g129.grown hgg138 nb112
                 obtain ⟨m135, l136⟩ := m127.append l0 (World.grownBy_alloc w126 _ none) hgrow hown (hat.imp id (by omega))
                 clear hown hgrow hat hlt hrow l0 hbase hkl m127
                 have g139 := g129'
                 clear g129' g129
                 clear q130
                 clear q131
                 have q140 := g139.c1
                 have q141 := g139.lt))
          clear q160
          clear q161
          go_wp2_with fail
          go_ret
          exact PostN.fin m158 (by simp [pairB, need, name, fail, Res.bind, ok1, hk4, hs5n, hs44n, Hhc78.out, hx87, hs91, hx97, hx115, Hhc125.out])
        · have hp1 : (((pairKind (hd R).text : Nat) : Int) == 31) = false := by rw [show (((pairKind (hd R).text : Nat) : Int) == 31) = (pairKind (hd R).text == 31) from beqK _ 31]; simpa using hs91
          have zt0 := g90.c0
          have zt1 := g90.c1
          have zt2 := g90.c2
          have zt3 := g90.c3
          have ztb : ¬ w.heap.size = c.bp := fun e => g90.free (.inl e)
          have ztc : ¬ c.bp = w.heap.size := fun e => g90.free (.inl e.symm)
          have ztl := g90.lt
          go_wp2_with fail
          clear zt0 zt1 zt2 zt3 ztb ztc ztl
          clear hp1
          by_cases hx162 : isTok (hd Rhc78.tail) [41] = true
          rotate_left
          · refine (need_no m89.ps m89.rem [41] (by simpa using hx162)).mono ?_
            rintro e wz hbad
            have hb2 := Bad.trans m80.fr (Bad.trans m89.fr hbad)
            obtain ⟨rfl, _⟩ := hbad
            exact ⟨rfl, PostN.bad hb2 (by simp [pairB, need, name, fail, Res.bind, ok1, hk4, hs5n, hs44n, Hhc78.out, hx87, hs91, hx162])⟩
          refine (need_yes m89.ps m89.rem [41] hx162).mono ?_
          rintro e w163 ⟨rfl, hp, hf⟩
          have m164 := m89.next hp hf
          have g90' := g90.fr hf
          have g165 := g90'
          clear g90' g90
          clear hp hf m89
          have zt0 := g165.c0
          have zt1 := g165.c1
          have zt2 := g165.c2
          have zt3 := g165.c3
          have ztb : ¬ w.heap.size = c.bp := fun e => g165.free (.inl e)
          have ztc : ¬ c.bp = w.heap.size := fun e => g165.free (.inl e.symm)
          have ztl := g165.lt
          go_wp2_with fail
          clear zt0 zt1 zt2 zt3 ztb ztc ztl
          have g165' := g165.below ((Below.refl _ _).drew)
          have m166 := m164.below ((Below.refl _ _).drew)
          clear m164
          have g167 := g165'
          clear g165' g165
          have q168 := g167.c1
          have q169 := g167.lt
          go_region_held2 (fun w' => w'.cell? ⟨w.heap.size, 1, none⟩ = some (.int .i64 (hd R).pos))
            (first | assumption | go_keep)
            (first
              | (go_at_call 91
                 have HChc170 : Hid (pRun n (.block lv) Rhc78.tail.tail ≠ .out) := fun e => HN.out (by simp [pairB, need, name, fail, Res.bind, ok1, hk4, hs5n, hs44n, Hhc78.out, hx87, hs91, hx162, e])
                 refine (ih.block _ _ _ _ _ m166.ps m166.rem (m166.lv HL83.out) hle HChc170.out).mono ?_
                 rintro e w171 hpost
                 rcases hc170 : pRun n (.block lv) Rhc78.tail.tail with ⟨tshc170, Rhc170⟩ | ⟨en, p⟩ | _
                 rotate_left
                 · rw [hc170] at hpost
                   have hb2 := Bad.trans m80.fr (Bad.trans m166.fr hpost)
                   obtain ⟨rfl, _⟩ := hpost
                   exact ⟨rfl, PostN.bad hb2 (by simp [pairB, need, name, fail, Res.bind, ok1, hk4, hs5n, hs44n, Hhc78.out, hx87, hs91, hx162, hc170])⟩
                 · exact absurd hc170 HChc170.out
                 rw [hc170] at hpost
                 obtain ⟨shc170, khc170, thc170, rfl, rfl, mm⟩ := hpost
                 have m172 := m166.call mm
                 have g167' := g167.fr mm.fr
                 have g173 := g167'
                 clear g167' g167
                 have Hhc170 := hidden hc170
                 clear mm m166 hc170 HChc170
                 clear q168
                 clear q169
                 have q174 := g173.c1
                 have q175 := g173.lt)
              | (go_at_call_of 57 (Value.int IntKind.u8 27)
                 refine (node_mid m179 l180 m80.ps.room 27 (hd Rhc78).pos []).mono ?_
                 rintro e w186 ⟨s188, k187, rfl, m189, hp⟩
                 have g183' := g183.kept hp nb181
                 clear hp m179
                 have g190 := g183'
                 clear g183' g183
                 have m191 := m80.call m189
                 clear m80 m189
                 clear q184
                 clear q185
                 have q192 := g190.c1
                 have q193 := g190.lt)
              | (go_at_call 57
                 have nb195 : (Value.slice (some ⟨w186.heap.size, 0, none⟩) 2 2).ownBlock ≠ some w.heap.size := by have := g190.lt; simp [Value.ownBlock]; omega
                 have l194 : Lst c w (w186.alloc (.cells #[.int .i64 khc78, .int .i64 k187] 3)) _ (.slice (some ⟨w186.heap.size, 0, none⟩) 2 2) [khc78, k187] := Lst.made m191 [khc78, k187] (by simp)
                 have g190' := g190.below ((Below.refl _ _).alloc (Nat.le_refl _) (.cells #[.int .i64 khc78, .int .i64 k187] 3))
                 have m196 := m191.below ((Below.refl _ _).alloc (Nat.le_refl _) (.cells #[.int .i64 khc78, .int .i64 k187] 3))
                 clear m191
                 have g197 := g190'
                 clear g190' g190
                 generalize w186.alloc (.cells #[.int .i64 khc78, .int .i64 k187] 3) = w198 at m196 l194 g197 ⊢
                 refine (node_mid m196 l194 h.room (pairKind (hd R).text) (hd R).pos []).mono ?_
                 rintro e w199 ⟨s201, k200, rfl, m202, hp⟩
                 have g197' := g197.kept hp nb195
                 clear hp m196
                 have g203 := g197'
                 clear g197' g197
                 clear q192
                 clear q193
                 have q204 := g203.c1
                 have q205 := g203.lt)
              | (skip
                 have hbase := m172.ps.bp_lt
                 have hkl := m172.kids_le
                 have l0 : Lst c w79 w171 (shc170) (.slice none 0 0) ([] : List Nat) := Lst.nil
                 have hrow := l0.row
                 refine step_append_lies _ (by rfl) _ _ _ (by rfl) (c.bp + 1) 3 i0 _ 1 8 Tryz.underlying30 hi0 hz0 hz1 hz2 rfl (by decide) (.slice none 0 0) (([] : List Nat)).length (ints ([] : List Nat)) (by rfl) (World.ownsRow.alloc hrow _) ⟨w171.heap.size, 0, none⟩ 1 1 [.int .i64 khc170] (by rfl) (by rfl) (World.news_of_block (cs := #[.int .i64 khc170]) (t := 3) (fr := (0, 0)) (heap_alloc_new w171 _)) (by simp [Value.oneCell']) (by decide) (by unfold maxLen; first | omega | (simp at hkl ⊢; done) | (simp at hkl ⊢; omega)) (by first | omega | (simp at hkl ⊢; done) | (simp at hkl ⊢; omega)) (by simp; omega) (w171.heap.size + 1) (by simp) ?_
                 intro g176 cap177 w178 hown hgrow hat hlt
                 have nb181 : (Value.slice (some ⟨g176, 0, none⟩) ((([] : List Nat)).length + 1) cap177).ownBlock ≠ some w.heap.size := by
                   intro e
                   have e' : g176 = w.heap.size := by simpa [Value.ownBlock] using e
                   rcases hat with h1 | h1
                   · simp [Value.ownBlock] at h1
                   · have := g173.lt; omega
                 have hgg182 := grownBy_trans (World.grownBy_alloc w171 _ none) hgrow
                 have g173' := g173.grown hgg182 (by simp [Value.ownBlock])
                 obtain ⟨m179, l180⟩ := m172.append l0 (World.grownBy_alloc w171 _ none) hgrow hown (hat.imp id (by omega))
                 clear hown hgrow hat hlt hrow l0 hbase hkl m172
                 have g183 := g173'
                 clear g173' g173
                 clear q174
                 clear q175
                 have q184 := g183.c1
                 have q185 := g183.lt))
          clear q204
          clear q205
          go_wp2_with fail
          go_ret
          exact PostN.fin m202 (by simp [pairB, need, name, fail, Res.bind, ok1, hk4, hs5n, hs44n, Hhc78.out, hx87, hs91, hx162, Hhc170.out])
  · have hk4n : ((hd R).kind == 1) = false := by simpa using hk4
    have hk4a : (((hd R).kind : Int) == 1) = false := by rw [← hk4n]; exact beqK _ 1
    have hk4b : ¬ ((hd R).kind : Int) = 1 := by simp at hk4; omega
    clear hk4
    go_wp2_with fail
    clear hm1 hm2 hm3 hmm zt0 zt1 zt2 zt3 ztb ztc ztl
    have g1' := g1.below ((Below.refl _ _).alloc (Nat.le_refl _) (.map #[ent #[103, 101, 116] 30 0, ent #[115, 101, 116] 31 1] 2))
    have m206 := m2.below ((Below.refl _ _).alloc (Nat.le_refl _) (.map #[ent #[103, 101, 116] 30 0, ent #[115, 101, 116] 31 1] 2))
    clear m2
    have g207 := g1'
    clear g1' g1
    generalize w3.alloc (.map #[ent #[103, 101, 116] 30 0, ent #[115, 101, 116] 31 1] 2) = w208 at m206 g207 ⊢
    have HChc209 : Hid (pRun n (.key lv) R ≠ .out) := fun e => HN.out (by simp [pairB, need, name, fail, Res.bind, ok1, hk4n, e])
    refine (ih.key _ _ _ _ _ m206.ps m206.rem (m206.lv HL.out) hle HChc209.out).mono ?_
    rintro e w210 hpost
    rcases hc209 : pRun n (.key lv) R with ⟨tshc209, Rhc209⟩ | ⟨en, p⟩ | _
    rotate_left
    · rw [hc209] at hpost
      have hb2 := Bad.trans m206.fr hpost
      obtain ⟨rfl, _⟩ := hpost
      exact ⟨rfl, PostN.bad hb2 (by simp [pairB, need, name, fail, Res.bind, ok1, hk4n, hc209])⟩
    · exact absurd hc209 HChc209.out
    rw [hc209] at hpost
    obtain ⟨shc209, khc209, thc209, rfl, rfl, mm⟩ := hpost
    have m211 := m206.call mm
    have g207' := g207.fr mm.fr
    have g212 := g207'
    clear g207' g207
    have Hhc209 := hidden hc209
    clear mm m206 hc209 HChc209
    have zt0 := g212.c0
    have zt1 := g212.c1
    have zt2 := g212.c2
    have zt3 := g212.c3
    have ztb : ¬ w.heap.size = c.bp := fun e => g212.free (.inl e)
    have ztc : ¬ c.bp = w.heap.size := fun e => g212.free (.inl e.symm)
    have ztl := g212.lt
    go_wp2_with fail
    clear zt0 zt1 zt2 zt3 ztb ztc ztl
    by_cases hx213 : isTok (hd Rhc209) [58] = true
    rotate_left
    · refine (need_no m211.ps m211.rem [58] (by simpa using hx213)).mono ?_
      rintro e wz hbad
      have hb2 := Bad.trans m211.fr hbad
      obtain ⟨rfl, _⟩ := hbad
      exact ⟨rfl, PostN.bad hb2 (by simp [pairB, need, name, fail, Res.bind, ok1, hk4n, Hhc209.out, hx213])⟩
    refine (need_yes m211.ps m211.rem [58] hx213).mono ?_
    rintro e w214 ⟨rfl, hp, hf⟩
    have m215 := m211.next hp hf
    have g212' := g212.fr hf
    have g216 := g212'
    clear g212' g212
    clear hp hf m211
    have zt0 := g216.c0
    have zt1 := g216.c1
    have zt2 := g216.c2
    have zt3 := g216.c3
    have ztb : ¬ w.heap.size = c.bp := fun e => g216.free (.inl e)
    have ztc : ¬ c.bp = w.heap.size := fun e => g216.free (.inl e.symm)
    have ztl := g216.lt
    go_wp2_with fail
    clear zt0 zt1 zt2 zt3 ztb ztc ztl
    have g216' := g216.below ((Below.refl _ _).drew)
    have m217 := m215.below ((Below.refl _ _).drew)
    clear m215
    have g218 := g216'
    clear g216' g216
    have q219 := g218.c1
    have q220 := g218.lt
    go_region_held2 (fun w' => w'.cell? ⟨w.heap.size, 1, none⟩ = some (.int .i64 (hd R).pos))
      (first | assumption | go_keep)
      (first
        | (go_at_call 102
           have HChc221 : Hid (pRun n (.assign lv) Rhc209.tail ≠ .out) := fun e => HN.out (by simp [pairB, need, name, fail, Res.bind, ok1, hk4n, Hhc209.out, hx213, e])
           refine (ih.assign _ _ _ _ _ m217.ps m217.rem (m217.lv HL.out) hle HChc221.out).mono ?_
           rintro e w222 hpost
           rcases hc221 : pRun n (.assign lv) Rhc209.tail with ⟨tshc221, Rhc221⟩ | ⟨en, p⟩ | _
           rotate_left
           · rw [hc221] at hpost
             have hb2 := Bad.trans m217.fr hpost
             obtain ⟨rfl, _⟩ := hpost
             exact ⟨rfl, PostN.bad hb2 (by simp [pairB, need, name, fail, Res.bind, ok1, hk4n, Hhc209.out, hx213, hc221])⟩
           · exact absurd hc221 HChc221.out
           rw [hc221] at hpost
           obtain ⟨shc221, khc221, thc221, rfl, rfl, mm⟩ := hpost
           have m223 := m217.call mm
           have g218' := g218.fr mm.fr
           have g224 := g218'
           clear g218' g218
           have Hhc221 := hidden hc221
           clear mm m217 hc221 HChc221
           clear q219
           clear q220
           have q225 := g224.c1
           have q226 := g224.lt)
        | (go_at_call 57
           have nb228 : (Value.slice (some ⟨w222.heap.size, 0, none⟩) 2 2).ownBlock ≠ some w.heap.size := by have := g224.lt; simp [Value.ownBlock]; omega
           have l227 : Lst c w (w222.alloc (.cells #[.int .i64 khc209, .int .i64 khc221] 3)) _ (.slice (some ⟨w222.heap.size, 0, none⟩) 2 2) [khc209, khc221] := Lst.made m223 [khc209, khc221] (by simp)
           have g224' := g224.below ((Below.refl _ _).alloc (Nat.le_refl _) (.cells #[.int .i64 khc209, .int .i64 khc221] 3))
           have m229 := m223.below ((Below.refl _ _).alloc (Nat.le_refl _) (.cells #[.int .i64 khc209, .int .i64 khc221] 3))
           clear m223
           have g230 := g224'
           clear g224' g224
           generalize w222.alloc (.cells #[.int .i64 khc209, .int .i64 khc221] 3) = w231 at m229 l227 g230 ⊢
           refine (node_mid m229 l227 h.room 29 (hd R).pos []).mono ?_
           rintro e w232 ⟨s234, k233, rfl, m235, hp⟩
           have g230' := g230.kept hp nb228
           clear hp m229
           have g236 := g230'
           clear g230' g230
           clear q225
           clear q226
           have q237 := g236.c1
           have q238 := g236.lt))
    clear q237
    clear q238
    go_wp2_with fail
    go_ret
    exact PostN.fin m235 (by simp [pairB, need, name, fail, Res.bind, ok1, hk4n, Hhc209.out, hx213, Hhc221.out])

end Go.Proofs.YtgdamcmfdhhheaaGreatDoor
