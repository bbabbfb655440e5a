/- An assignment, walked. -/
import Derived.Test.YtgdamcmfdhhheaaGreatDoorMA2
import Derived.Deep.LoopGhost
import Derived.Deep.RegionHeld2
import Derived.Defers
import Derived.Deep.AppendLies
set_option linter.all false

namespace Go.Proofs.YtgdamcmfdhhheaaGreatDoor
open Go.RowKit Bf

set_option maxRecDepth 100000 in
set_option maxHeartbeats 8000000 in
theorem assign_step (n : Nat) (ih : All n) : CallN 102 [] .assign (n + 1) := by
  intro c w s R lv h hr hlv hle hne
  change Calls _ _ #[.pointer (some ⟨c.bp, 0, none⟩)] w (PostN c w s (assignB (pRun n) lv R))
  have HN : Hid (assignB (pRun n) lv R ≠ .out) := hne
  have HL : Hid (s.lv = (lv : Int)) := hlv
  clear hne hlv
  have m0 := Mid.start h hr
  clear hr
  go_enter_defers Tryz.func102, Tryz.ntmps102
  refine Code.wp_mono (DPost.imp (leaves_thrown (c := c) (w := w) (s := s) (r := assignB (pRun n) lv R) (B := w.heap.size) (fun en p e w' he hb => PostN.bad hb he))) ?_
  go_wp2_with fail
  by_cases h200 : 200 < lv + 1
  · refine (deeper_no m0.ps m0.rem (m0.lv HL.out) h200 (by omega)).mono ?_
    rintro e wz post
    have hb2 := Bad.trans m0.fr post
    obtain ⟨rfl, _⟩ := post
    exact Or.inl ⟨rfl, PostN.bad hb2 (by simp [assignB, Res.bind, fail, ok1, h200, fail])⟩
  have hleD : lv + 1 ≤ 200 := by omega
  refine (deeper_ok m0.ps (m0.lv HL.out) h200).mono ?_
  rintro e wD ⟨rfl, hp, hf, hbx, hsz⟩
  have ubD : Box c wD (s.at_ ((lv : Int) + 1)) w.heap.size := Fr.box m0.ps hf hbx (fun _ h => h)
  have mD := Mid.start hp m0.rem
  have HLD : Hid ((s.at_ ((lv : Int) + 1)).lv = ((lv + 1 : Nat) : Int)) := hidden (by simp [St.at_])
  have hroomD : (s.at_ ((lv : Int) + 1)).ns.length ≤ (s.at_ ((lv : Int) + 1)).i + 1 := h.room
  clear hp hbx hsz
  clear m0
  have h0 := mD.ps.c0
  have h1 := mD.ps.c1
  have hbp := mD.ps.bp_lt
  have hbl := mD.ps.bl_lt
  have hi := mD.ps.i
  have hlen := mD.ps.len
  have t0 := mD.ps.t0 mD.rem
  have t1 := mD.ps.t1 mD.rem
  have t2 := mD.ps.t2 mD.rem
  have t3 := mD.ps.t3 mD.rem
  go_wp2
  go_region
  clear h0 h1 hbp hbl hi hlen t0 t1 t2 t3
  have ubD' := ubD.below ((Below.refl _ _).drew)
  have m1 := mD.below ((Below.refl _ _).drew)
  clear mD
  have u2 := ubD'
  clear ubD' ubD
  generalize wD.drew = w3 at m1 u2 ⊢
  go_wp2_with fail
  have HChc4 : Hid (pRun n (.cond (lv + 1)) R ≠ .out) := fun e => HN.out (by simp [assignB, Res.bind, fail, ok1, h200, e])
  refine (ih.cond _ _ _ _ _ m1.ps m1.rem (m1.lv HLD.out) hleD HChc4.out).mono ?_
  rintro e w5 hpost
  rcases hc4 : pRun n (.cond (lv + 1)) R with ⟨tshc4, Rhc4⟩ | ⟨en, p⟩ | _
  rotate_left
  · rw [hc4] at hpost
    have hb2 := Box.thrown (r := assignB (pRun n) lv R) u2 (hf.trans m1.fr) hpost (by simp [assignB, Res.bind, fail, ok1, h200, hc4])
    obtain ⟨rfl, _⟩ := hpost
    exact Or.inr ⟨rfl, hb2⟩
  · exact absurd hc4 HChc4.out
  rw [hc4] at hpost
  obtain ⟨shc4, khc4, thc4, rfl, rfl, mm⟩ := hpost
  have m6 := m1.call mm
  have u2' := u2.fr mm.fr
  have u7 := u2'
  clear u2' u2
  have Hhc4 := hidden hc4
  clear mm m1 hc4 HChc4
  have h0 := m6.ps.c0
  have h1 := m6.ps.c1
  have hbp := m6.ps.bp_lt
  have hbl := m6.ps.bl_lt
  have hi := m6.ps.i
  have hlen := m6.ps.len
  have t0 := m6.ps.t0 m6.rem
  have t1 := m6.ps.t1 m6.rem
  have t2 := m6.ps.t2 m6.rem
  have t3 := m6.ps.t3 m6.rem
  go_wp2
  go_region
  clear h0 h1 hbp hbl hi hlen t0 t1 t2 t3
  have u7' := u7.below (((Below.refl _ _).alloc (Nat.le_refl _) (.cells #[.int .u8 (hd Rhc4).kind, .int .i64 (hd Rhc4).pos, .string ⟨(hd Rhc4).text.toArray⟩, .float .f64 (hd Rhc4).num] 59)).drew)
  obtain ⟨m9, g8⟩ := m6.held
  clear m6
  change Mid c wD (s.at_ ((lv : Int) + 1)) ((w5.alloc (.cells #[.int .u8 (hd Rhc4).kind, .int .i64 (hd Rhc4).pos, .string ⟨(hd Rhc4).text.toArray⟩, .float .f64 (hd Rhc4).num] 59)).drew) _ _ _ _ _ at m9
  change Held c ((w5.alloc (.cells #[.int .u8 (hd Rhc4).kind, .int .i64 (hd Rhc4).pos, .string ⟨(hd Rhc4).text.toArray⟩, .float .f64 (hd Rhc4).num] 59)).drew) _ _ _ at g8
  generalize ((w5.alloc (.cells #[.int .u8 (hd Rhc4).kind, .int .i64 (hd Rhc4).pos, .string ⟨(hd Rhc4).text.toArray⟩, .float .f64 (hd Rhc4).num] 59)).drew) = w10 at m9 g8 u7' ⊢
  have u11 := u7'
  clear u7' u7
  by_cases hk12 : ((hd Rhc4).kind == 5) = true
  · have hk12a : (((hd Rhc4).kind : Int) == 5) = true := by rw [← hk12]; exact beqK _ 5
    have hk12b : ((hd Rhc4).kind : Int) = 5 := by simp at hk12; omega
    have zt0 := g8.c0
    have zt1 := g8.c1
    have zt2 := g8.c2
    have zt3 := g8.c3
    have ztb : ¬ w5.heap.size = c.bp := fun e => g8.free (.inl e)
    have ztc : ¬ c.bp = w5.heap.size := fun e => g8.free (.inl e.symm)
    have ztl := g8.lt
    go_wp2_with fail
    clear zt0 zt1 zt2 zt3 ztb ztc ztl
    have hcon := row_calls (w10.alloc (.cells #[.string ⟨#[61]⟩, .string ⟨#[43, 61]⟩, .string ⟨#[45, 61]⟩, .string ⟨#[42, 61]⟩, .string ⟨#[47, 61]⟩, .string ⟨#[37, 61]⟩] 9)) w10.heap.size [[61], [43, 61], [45, 61], [42, 61], [47, 61], [37, 61]] (hd Rhc4).text (by decide) (fun j z hj => by
      have hb := heap_alloc_new w10 (.cells #[.string ⟨#[61]⟩, .string ⟨#[43, 61]⟩, .string ⟨#[45, 61]⟩, .string ⟨#[42, 61]⟩, .string ⟨#[47, 61]⟩, .string ⟨#[37, 61]⟩] 9)
      rcases j with _|_|_|_|_|_|j
      · cases hj; exact (cell_of_row _ _ 0 _ _ _ hb).trans rfl
      · cases hj; exact (cell_of_row _ _ 1 _ _ _ hb).trans rfl
      · cases hj; exact (cell_of_row _ _ 2 _ _ _ hb).trans rfl
      · cases hj; exact (cell_of_row _ _ 3 _ _ _ hb).trans rfl
      · cases hj; exact (cell_of_row _ _ 4 _ _ _ hb).trans rfl
      · cases hj; exact (cell_of_row _ _ 5 _ _ _ hb).trans rfl
      · simp at hj)
    have u11' := u11.below ((Below.refl _ _).alloc (Nat.le_refl _) (.cells #[.string ⟨#[61]⟩, .string ⟨#[43, 61]⟩, .string ⟨#[45, 61]⟩, .string ⟨#[42, 61]⟩, .string ⟨#[47, 61]⟩, .string ⟨#[37, 61]⟩] 9))
    have g8' := g8.below ((Below.refl _ _).alloc (Nat.le_refl _) (.cells #[.string ⟨#[61]⟩, .string ⟨#[43, 61]⟩, .string ⟨#[45, 61]⟩, .string ⟨#[42, 61]⟩, .string ⟨#[47, 61]⟩, .string ⟨#[37, 61]⟩] 9))
    have m13 := m9.below ((Below.refl _ _).alloc (Nat.le_refl _) (.cells #[.string ⟨#[61]⟩, .string ⟨#[43, 61]⟩, .string ⟨#[45, 61]⟩, .string ⟨#[42, 61]⟩, .string ⟨#[47, 61]⟩, .string ⟨#[37, 61]⟩] 9))
    clear m9
    have u14 := u11'
    clear u11' u11
    have g15 := g8'
    clear g8' g8
    generalize w10.alloc (.cells #[.string ⟨#[61]⟩, .string ⟨#[43, 61]⟩, .string ⟨#[45, 61]⟩, .string ⟨#[42, 61]⟩, .string ⟨#[47, 61]⟩, .string ⟨#[37, 61]⟩] 9) = w16 at hcon m13 u14 g15 ⊢
    by_cases hc : [[61], [43, 61], [45, 61], [42, 61], [47, 61], [37, 61]].contains (hd Rhc4).text = true
    · have hop : assignOp (hd Rhc4) = true := by simp only [assignOp, hk12, Bool.true_and]; exact hc
      rw [hc] at hcon
      refine hcon.mono ?_
      clear hcon hc
      rintro e wq ⟨rfl, rfl⟩
      obtain ⟨g, cap, env, hkl, hcap, hkc⟩ := PS.node_kind m13.ps (show RepL _ [khc4] [thc4] from m13.rp).1
      have h3 := m13.ps.c3
      rw [env] at h3
      have hfk : firstKind [thc4] = thc4.kind := rfl
      generalize thc4.kind = tk at hkc hfk
      have hkI : (khc4 : Int) < (shc4.ns.length : Int) := by omega
      by_cases hq26 : tk = 26
      · skip
        have hq26b : ((tk : Int) == 26) = true := by rw [show ((tk : Int) == 26) = (tk == 26) from beqK tk 26]; simpa using hq26
        have hq26c : ((tk : Int) != 26) = false := by simp only [bne, hq26b]; rfl
        have hq26d : (tk : Int) = 26 := by omega
        have zt0 := g15.c0
        have zt1 := g15.c1
        have zt2 := g15.c2
        have zt3 := g15.c3
        have ztb : ¬ w5.heap.size = c.bp := fun e => g15.free (.inl e)
        have ztc : ¬ c.bp = w5.heap.size := fun e => g15.free (.inl e.symm)
        have ztl := g15.lt
        have hmore := m13.ps.more m13.rem (by simp at hk12; omega)
        have h1 := m13.ps.c1
        have fz1 := m13.ps.fz 1
        have hlen := m13.ps.len
        have hnx := m13.ps.next hmore
        have m18 := m13.next hnx.1 hnx.2
        have u14' := u14.fr hnx.2
        have g15' := g15.fr hnx.2
        have u19 := u14'
        clear u14' u14
        have g20 := g15'
        clear g15' g15
        go_wp2_with fail
        clear h1 fz1 hlen hnx hmore zt0 zt1 zt2 zt3 ztb ztc ztl m13
        generalize (wq.setCell ⟨c.bp, 1, none⟩ (.int .i64 (((shc4).i : Int) + 1))) = w21 at m18 u19 g20 ⊢
        clear hkc h3 hkI hkl hcap env hk12a hk12b
        have u19' := u19.below ((Below.refl _ _).drew)
        have g20' := g20.below ((Below.refl _ _).drew)
        have m22 := m18.below ((Below.refl _ _).drew)
        clear m18
        have u23 := u19'
        clear u19' u19
        have g24 := g20'
        clear g20' g20
        have q25 := g24.c2
        have q26 := g24.lt
        go_region_held2 (fun w' => w'.cell? ⟨w5.heap.size, 2, none⟩ = some (.string ⟨(hd Rhc4).text.toArray⟩))
          (first | assumption | go_keep)
          (first
            | (go_at_call 102
               have HChc27 : Hid (pRun n (.assign (lv + 1)) Rhc4.tail ≠ .out) := fun e => HN.out (by simp [assignB, Res.bind, fail, ok1, h200, Hhc4.out, hop, hfk, hq26, e])
               refine (ih.assign _ _ _ _ _ m22.ps m22.rem (m22.lv HLD.out) hleD HChc27.out).mono ?_
               rintro e w28 hpost
               rcases hc27 : pRun n (.assign (lv + 1)) Rhc4.tail with ⟨tshc27, Rhc27⟩ | ⟨en, p⟩ | _
               rotate_left
               · rw [hc27] at hpost
                 have hb2 := Box.thrown (r := assignB (pRun n) lv R) u23 (hf.trans m22.fr) hpost (by simp [assignB, Res.bind, fail, ok1, h200, Hhc4.out, hop, hfk, hq26, hc27])
                 obtain ⟨rfl, _⟩ := hpost
                 exact Or.inr ⟨rfl, hb2⟩
               · exact absurd hc27 HChc27.out
               rw [hc27] at hpost
               obtain ⟨shc27, khc27, thc27, rfl, rfl, mm⟩ := hpost
               have m29 := m22.call mm
               have u23' := u23.fr mm.fr
               have g24' := g24.fr mm.fr
               have u30 := u23'
               clear u23' u23
               have g31 := g24'
               clear g24' g24
               have Hhc27 := hidden hc27
               clear mm m22 hc27 HChc27
               clear q25
               clear q26
               have q32 := g31.c2
               have q33 := g31.lt)
            | (go_at_call 57
               have nb35 : (Value.slice (some ⟨w28.heap.size, 0, none⟩) 2 2).ownBlock ≠ some w.heap.size := by have := u30.lt; simp [Value.ownBlock]; omega
               have nb36 : (Value.slice (some ⟨w28.heap.size, 0, none⟩) 2 2).ownBlock ≠ some w5.heap.size := by have := g31.lt; simp [Value.ownBlock]; omega
               have l34 : Lst c wD (w28.alloc (.cells #[.int .i64 khc4, .int .i64 khc27] 3)) _ (.slice (some ⟨w28.heap.size, 0, none⟩) 2 2) [khc4, khc27] := Lst.made m29 [khc4, khc27] (by simp)
               have u30' := u30.below ((Below.refl _ _).alloc (Nat.le_refl _) (.cells #[.int .i64 khc4, .int .i64 khc27] 3))
               have g31' := g31.below ((Below.refl _ _).alloc (Nat.le_refl _) (.cells #[.int .i64 khc4, .int .i64 khc27] 3))
               have m37 := m29.below ((Below.refl _ _).alloc (Nat.le_refl _) (.cells #[.int .i64 khc4, .int .i64 khc27] 3))
               clear m29
               have u38 := u30'
               clear u30' u30
               have g39 := g31'
               clear g31' g31
               generalize w28.alloc (.cells #[.int .i64 khc4, .int .i64 khc27] 3) = w40 at m37 l34 u38 g39 ⊢
               refine (node_mid m37 l34 hroomD 43 (hd R).pos (hd Rhc4).text).mono ?_
               rintro e w41 ⟨s43, k42, rfl, m44, hp⟩
               have u38' := u38.kept hp nb35
               have g39' := g39.kept hp nb36
               clear hp m37
               have u45 := u38'
               clear u38' u38
               have g46 := g39'
               clear g39' g39
               clear q32
               clear q33
               have q47 := g46.c2
               have q48 := g46.lt))
        clear q47
        clear q48
        go_wp2_with fail
        (try simp only [Exit.inBlock, Exit.then])
        change Leaves _ _ _ _ [_] FrameMode.returning _
        refine leaves_cons (f := 124) (args := #[.pointer (some ⟨w.heap.size, 0, none⟩)]) (by simp) (by simp [go_sem]) ?_
        refine (up_deferred m44.ps w.heap.size u45.cell (lv := lv) (by rw [m44.lv HLD.out]; push_cast; rfl) (by omega) _).mono ?_
        rintro e u' we ⟨rfl, rfl, hp, hfe⟩
        rw [← HL.out] at hp hfe
        exact ⟨_, results_tmp rfl _ _ _, PostN.fin (Mid.down hf m44 hp hfe) (by simp [assignB, Res.bind, fail, ok1, h200, Hhc4.out, hop, hfk, hq26, Hhc27.out])⟩
      have hq26b : ((tk : Int) == 26) = false := by rw [show ((tk : Int) == 26) = (tk == 26) from beqK tk 26]; simpa using hq26
      have hq26c : ((tk : Int) != 26) = true := by simp only [bne, hq26b]; rfl
      have hq26d : ¬ (tk : Int) = 26 := by omega
      by_cases hq34 : tk = 34
      · skip
        have hq34b : ((tk : Int) == 34) = true := by rw [show ((tk : Int) == 34) = (tk == 34) from beqK tk 34]; simpa using hq34
        have hq34c : ((tk : Int) != 34) = false := by simp only [bne, hq34b]; rfl
        have hq34d : (tk : Int) = 34 := by omega
        have zt0 := g15.c0
        have zt1 := g15.c1
        have zt2 := g15.c2
        have zt3 := g15.c3
        have ztb : ¬ w5.heap.size = c.bp := fun e => g15.free (.inl e)
        have ztc : ¬ c.bp = w5.heap.size := fun e => g15.free (.inl e.symm)
        have ztl := g15.lt
        have hmore := m13.ps.more m13.rem (by simp at hk12; omega)
        have h1 := m13.ps.c1
        have fz1 := m13.ps.fz 1
        have hlen := m13.ps.len
        have hnx := m13.ps.next hmore
        have m49 := m13.next hnx.1 hnx.2
        have u14' := u14.fr hnx.2
        have g15' := g15.fr hnx.2
        have u50 := u14'
        clear u14' u14
        have g51 := g15'
        clear g15' g15
        go_wp2_with fail
        clear h1 fz1 hlen hnx hmore zt0 zt1 zt2 zt3 ztb ztc ztl m13
        generalize (wq.setCell ⟨c.bp, 1, none⟩ (.int .i64 (((shc4).i : Int) + 1))) = w52 at m49 u50 g51 ⊢
        clear hkc h3 hkI hkl hcap env hk12a hk12b
        have u50' := u50.below ((Below.refl _ _).drew)
        have g51' := g51.below ((Below.refl _ _).drew)
        have m53 := m49.below ((Below.refl _ _).drew)
        clear m49
        have u54 := u50'
        clear u50' u50
        have g55 := g51'
        clear g51' g51
        have q56 := g55.c2
        have q57 := g55.lt
        go_region_held2 (fun w' => w'.cell? ⟨w5.heap.size, 2, none⟩ = some (.string ⟨(hd Rhc4).text.toArray⟩))
          (first | assumption | go_keep)
          (first
            | (go_at_call 102
               have HChc58 : Hid (pRun n (.assign (lv + 1)) Rhc4.tail ≠ .out) := fun e => HN.out (by simp [assignB, Res.bind, fail, ok1, h200, Hhc4.out, hop, hfk, hq26, hq34, e])
               refine (ih.assign _ _ _ _ _ m53.ps m53.rem (m53.lv HLD.out) hleD HChc58.out).mono ?_
               rintro e w59 hpost
               rcases hc58 : pRun n (.assign (lv + 1)) Rhc4.tail with ⟨tshc58, Rhc58⟩ | ⟨en, p⟩ | _
               rotate_left
               · rw [hc58] at hpost
                 have hb2 := Box.thrown (r := assignB (pRun n) lv R) u54 (hf.trans m53.fr) hpost (by simp [assignB, Res.bind, fail, ok1, h200, Hhc4.out, hop, hfk, hq26, hq34, hc58])
                 obtain ⟨rfl, _⟩ := hpost
                 exact Or.inr ⟨rfl, hb2⟩
               · exact absurd hc58 HChc58.out
               rw [hc58] at hpost
               obtain ⟨shc58, khc58, thc58, rfl, rfl, mm⟩ := hpost
               have m60 := m53.call mm
               have u54' := u54.fr mm.fr
               have g55' := g55.fr mm.fr
               have u61 := u54'
               clear u54' u54
               have g62 := g55'
               clear g55' g55
               have Hhc58 := hidden hc58
               clear mm m53 hc58 HChc58
               clear q56
               clear q57
               have q63 := g62.c2
               have q64 := g62.lt)
            | (go_at_call 57
               have nb66 : (Value.slice (some ⟨w59.heap.size, 0, none⟩) 2 2).ownBlock ≠ some w.heap.size := by have := u61.lt; simp [Value.ownBlock]; omega
               have nb67 : (Value.slice (some ⟨w59.heap.size, 0, none⟩) 2 2).ownBlock ≠ some w5.heap.size := by have := g62.lt; simp [Value.ownBlock]; omega
               have l65 : Lst c wD (w59.alloc (.cells #[.int .i64 khc4, .int .i64 khc58] 3)) _ (.slice (some ⟨w59.heap.size, 0, none⟩) 2 2) [khc4, khc58] := Lst.made m60 [khc4, khc58] (by simp)
               have u61' := u61.below ((Below.refl _ _).alloc (Nat.le_refl _) (.cells #[.int .i64 khc4, .int .i64 khc58] 3))
               have g62' := g62.below ((Below.refl _ _).alloc (Nat.le_refl _) (.cells #[.int .i64 khc4, .int .i64 khc58] 3))
               have m68 := m60.below ((Below.refl _ _).alloc (Nat.le_refl _) (.cells #[.int .i64 khc4, .int .i64 khc58] 3))
               clear m60
               have u69 := u61'
               clear u61' u61
               have g70 := g62'
               clear g62' g62
               generalize w59.alloc (.cells #[.int .i64 khc4, .int .i64 khc58] 3) = w71 at m68 l65 u69 g70 ⊢
               refine (node_mid m68 l65 hroomD 43 (hd R).pos (hd Rhc4).text).mono ?_
               rintro e w72 ⟨s74, k73, rfl, m75, hp⟩
               have u69' := u69.kept hp nb66
               have g70' := g70.kept hp nb67
               clear hp m68
               have u76 := u69'
               clear u69' u69
               have g77 := g70'
               clear g70' g70
               clear q63
               clear q64
               have q78 := g77.c2
               have q79 := g77.lt))
        clear q78
        clear q79
        go_wp2_with fail
        (try simp only [Exit.inBlock, Exit.then])
        change Leaves _ _ _ _ [_] FrameMode.returning _
        refine leaves_cons (f := 124) (args := #[.pointer (some ⟨w.heap.size, 0, none⟩)]) (by simp) (by simp [go_sem]) ?_
        refine (up_deferred m75.ps w.heap.size u76.cell (lv := lv) (by rw [m75.lv HLD.out]; push_cast; rfl) (by omega) _).mono ?_
        rintro e u' we ⟨rfl, rfl, hp, hfe⟩
        rw [← HL.out] at hp hfe
        exact ⟨_, results_tmp rfl _ _ _, PostN.fin (Mid.down hf m75 hp hfe) (by simp [assignB, Res.bind, fail, ok1, h200, Hhc4.out, hop, hfk, hq26, hq34, Hhc58.out])⟩
      have hq34b : ((tk : Int) == 34) = false := by rw [show ((tk : Int) == 34) = (tk == 34) from beqK tk 34]; simpa using hq34
      have hq34c : ((tk : Int) != 34) = true := by simp only [bne, hq34b]; rfl
      have hq34d : ¬ (tk : Int) = 34 := by omega
      by_cases hq35 : tk = 35
      · skip
        have hq35b : ((tk : Int) == 35) = true := by rw [show ((tk : Int) == 35) = (tk == 35) from beqK tk 35]; simpa using hq35
        have hq35c : ((tk : Int) != 35) = false := by simp only [bne, hq35b]; rfl
        have hq35d : (tk : Int) = 35 := by omega
        have zt0 := g15.c0
        have zt1 := g15.c1
        have zt2 := g15.c2
        have zt3 := g15.c3
        have ztb : ¬ w5.heap.size = c.bp := fun e => g15.free (.inl e)
        have ztc : ¬ c.bp = w5.heap.size := fun e => g15.free (.inl e.symm)
        have ztl := g15.lt
        have hmore := m13.ps.more m13.rem (by simp at hk12; omega)
        have h1 := m13.ps.c1
        have fz1 := m13.ps.fz 1
        have hlen := m13.ps.len
        have hnx := m13.ps.next hmore
        have m80 := m13.next hnx.1 hnx.2
        have u14' := u14.fr hnx.2
        have g15' := g15.fr hnx.2
        have u81 := u14'
        clear u14' u14
        have g82 := g15'
        clear g15' g15
        go_wp2_with fail
        clear h1 fz1 hlen hnx hmore zt0 zt1 zt2 zt3 ztb ztc ztl m13
        generalize (wq.setCell ⟨c.bp, 1, none⟩ (.int .i64 (((shc4).i : Int) + 1))) = w83 at m80 u81 g82 ⊢
        clear hkc h3 hkI hkl hcap env hk12a hk12b
        have u81' := u81.below ((Below.refl _ _).drew)
        have g82' := g82.below ((Below.refl _ _).drew)
        have m84 := m80.below ((Below.refl _ _).drew)
        clear m80
        have u85 := u81'
        clear u81' u81
        have g86 := g82'
        clear g82' g82
        have q87 := g86.c2
        have q88 := g86.lt
        go_region_held2 (fun w' => w'.cell? ⟨w5.heap.size, 2, none⟩ = some (.string ⟨(hd Rhc4).text.toArray⟩))
          (first | assumption | go_keep)
          (first
            | (go_at_call 102
               have HChc89 : Hid (pRun n (.assign (lv + 1)) Rhc4.tail ≠ .out) := fun e => HN.out (by simp [assignB, Res.bind, fail, ok1, h200, Hhc4.out, hop, hfk, hq26, hq34, hq35, e])
               refine (ih.assign _ _ _ _ _ m84.ps m84.rem (m84.lv HLD.out) hleD HChc89.out).mono ?_
               rintro e w90 hpost
               rcases hc89 : pRun n (.assign (lv + 1)) Rhc4.tail with ⟨tshc89, Rhc89⟩ | ⟨en, p⟩ | _
               rotate_left
               · rw [hc89] at hpost
                 have hb2 := Box.thrown (r := assignB (pRun n) lv R) u85 (hf.trans m84.fr) hpost (by simp [assignB, Res.bind, fail, ok1, h200, Hhc4.out, hop, hfk, hq26, hq34, hq35, hc89])
                 obtain ⟨rfl, _⟩ := hpost
                 exact Or.inr ⟨rfl, hb2⟩
               · exact absurd hc89 HChc89.out
               rw [hc89] at hpost
               obtain ⟨shc89, khc89, thc89, rfl, rfl, mm⟩ := hpost
               have m91 := m84.call mm
               have u85' := u85.fr mm.fr
               have g86' := g86.fr mm.fr
               have u92 := u85'
               clear u85' u85
               have g93 := g86'
               clear g86' g86
               have Hhc89 := hidden hc89
               clear mm m84 hc89 HChc89
               clear q87
               clear q88
               have q94 := g93.c2
               have q95 := g93.lt)
            | (go_at_call 57
               have nb97 : (Value.slice (some ⟨w90.heap.size, 0, none⟩) 2 2).ownBlock ≠ some w.heap.size := by have := u92.lt; simp [Value.ownBlock]; omega
               have nb98 : (Value.slice (some ⟨w90.heap.size, 0, none⟩) 2 2).ownBlock ≠ some w5.heap.size := by have := g93.lt; simp [Value.ownBlock]; omega
               have l96 : Lst c wD (w90.alloc (.cells #[.int .i64 khc4, .int .i64 khc89] 3)) _ (.slice (some ⟨w90.heap.size, 0, none⟩) 2 2) [khc4, khc89] := Lst.made m91 [khc4, khc89] (by simp)
               have u92' := u92.below ((Below.refl _ _).alloc (Nat.le_refl _) (.cells #[.int .i64 khc4, .int .i64 khc89] 3))
               have g93' := g93.below ((Below.refl _ _).alloc (Nat.le_refl _) (.cells #[.int .i64 khc4, .int .i64 khc89] 3))
               have m99 := m91.below ((Below.refl _ _).alloc (Nat.le_refl _) (.cells #[.int .i64 khc4, .int .i64 khc89] 3))
               clear m91
               have u100 := u92'
               clear u92' u92
               have g101 := g93'
               clear g93' g93
               generalize w90.alloc (.cells #[.int .i64 khc4, .int .i64 khc89] 3) = w102 at m99 l96 u100 g101 ⊢
               refine (node_mid m99 l96 hroomD 43 (hd R).pos (hd Rhc4).text).mono ?_
               rintro e w103 ⟨s105, k104, rfl, m106, hp⟩
               have u100' := u100.kept hp nb97
               have g101' := g101.kept hp nb98
               clear hp m99
               have u107 := u100'
               clear u100' u100
               have g108 := g101'
               clear g101' g101
               clear q94
               clear q95
               have q109 := g108.c2
               have q110 := g108.lt))
        clear q109
        clear q110
        go_wp2_with fail
        (try simp only [Exit.inBlock, Exit.then])
        change Leaves _ _ _ _ [_] FrameMode.returning _
        refine leaves_cons (f := 124) (args := #[.pointer (some ⟨w.heap.size, 0, none⟩)]) (by simp) (by simp [go_sem]) ?_
        refine (up_deferred m106.ps w.heap.size u107.cell (lv := lv) (by rw [m106.lv HLD.out]; push_cast; rfl) (by omega) _).mono ?_
        rintro e u' we ⟨rfl, rfl, hp, hfe⟩
        rw [← HL.out] at hp hfe
        exact ⟨_, results_tmp rfl _ _ _, PostN.fin (Mid.down hf m106 hp hfe) (by simp [assignB, Res.bind, fail, ok1, h200, Hhc4.out, hop, hfk, hq26, hq34, hq35, Hhc89.out])⟩
      have hq35b : ((tk : Int) == 35) = false := by rw [show ((tk : Int) == 35) = (tk == 35) from beqK tk 35]; simpa using hq35
      have hq35c : ((tk : Int) != 35) = true := by simp only [bne, hq35b]; rfl
      have hq35d : ¬ (tk : Int) = 35 := by omega
      have zt0 := g15.c0
      have zt1 := g15.c1
      have zt2 := g15.c2
      have zt3 := g15.c3
      have ztb : ¬ w5.heap.size = c.bp := fun e => g15.free (.inl e)
      have ztc : ¬ c.bp = w5.heap.size := fun e => g15.free (.inl e.symm)
      have ztl := g15.lt
      go_wp2_with fail
      clear zt0 zt1 zt2 zt3 ztb ztc ztl
      refine (fail_calls m13.ps m13.rem 5).mono ?_
      rintro e wz hbad
      have hb2 := Box.thrown (r := assignB (pRun n) lv R) u14 (hf.trans m13.fr) hbad (by simp [assignB, Res.bind, fail, ok1, h200, Hhc4.out, hop, hfk, hq26, hq34, hq35])
      obtain ⟨rfl, _⟩ := hbad
      exact Or.inr ⟨rfl, hb2⟩
    have hc' : [[61], [43, 61], [45, 61], [42, 61], [47, 61], [37, 61]].contains (hd Rhc4).text = false := by simpa using hc
    have hop : assignOp (hd Rhc4) = false := by simp only [assignOp, hk12, Bool.true_and]; exact hc'
    rw [hc'] at hcon
    refine hcon.mono ?_
    clear hcon hc
    rintro e wq ⟨rfl, rfl⟩
    clear hc'
    go_wp2_with fail
    (try simp only [Exit.inBlock, Exit.then])
    change Leaves _ _ _ _ [_] FrameMode.returning _
    refine leaves_cons (f := 124) (args := #[.pointer (some ⟨w.heap.size, 0, none⟩)]) (by simp) (by simp [go_sem]) ?_
    refine (up_deferred m13.ps w.heap.size u14.cell (lv := lv) (by rw [m13.lv HLD.out]; push_cast; rfl) (by omega) _).mono ?_
    rintro e u' we ⟨rfl, rfl, hp, hfe⟩
    rw [← HL.out] at hp hfe
    exact ⟨_, results_tmp rfl _ _ _, PostN.fin (Mid.down hf m13 hp hfe) (by simp [assignB, Res.bind, fail, ok1, h200, Hhc4.out, hop])⟩
  · have hk12n : ((hd Rhc4).kind == 5) = false := by simpa using hk12
    have hk12a : (((hd Rhc4).kind : Int) == 5) = false := by rw [← hk12n]; exact beqK _ 5
    have hk12b : ¬ ((hd Rhc4).kind : Int) = 5 := by simp at hk12; omega
    clear hk12
    have zt0 := g8.c0
    have zt1 := g8.c1
    have zt2 := g8.c2
    have zt3 := g8.c3
    have ztb : ¬ w5.heap.size = c.bp := fun e => g8.free (.inl e)
    have ztc : ¬ c.bp = w5.heap.size := fun e => g8.free (.inl e.symm)
    have ztl := g8.lt
    go_wp2_with fail
    clear zt0 zt1 zt2 zt3 ztb ztc ztl
    (try simp only [Exit.inBlock, Exit.then])
    change Leaves _ _ _ _ [_] FrameMode.returning _
    refine leaves_cons (f := 124) (args := #[.pointer (some ⟨w.heap.size, 0, none⟩)]) (by simp) (by simp [go_sem]) ?_
    refine (up_deferred m9.ps w.heap.size u11.cell (lv := lv) (by rw [m9.lv HLD.out]; push_cast; rfl) (by omega) _).mono ?_
    rintro e u' we ⟨rfl, rfl, hp, hfe⟩
    rw [← HL.out] at hp hfe
    exact ⟨_, results_tmp rfl _ _ _, PostN.fin (Mid.down hf m9 hp hfe) (by simp [assignB, Res.bind, fail, ok1, h200, Hhc4.out, hk12n, assignOp])⟩

end Go.Proofs.YtgdamcmfdhhheaaGreatDoor

/- A statement, walked. -/
namespace Go.Proofs.YtgdamcmfdhhheaaGreatDoor
open Go.RowKit Bf

theorem is2_any {c : Cx} {w : World} {s : St} {rem : List Tok} (h : PS c w s) (hr : c.toks.drop s.i = rem) (x : List UInt8) :
    Calls Tryz.prog 94 #[.pointer (some ⟨c.bp, 0, none⟩), .string ⟨x.toArray⟩] w fun e w' => e = .returned (.bool (is2 x rem)) ∧ Below w.heap.size w w' := by
  by_cases h0 : (hd rem).kind = 0
  · exact is2_end h hr x h0
  · exact is2_more h hr x h0

set_option maxRecDepth 100000 in
set_option maxHeartbeats 20000000 in
theorem stmt_step (n : Nat) (ih : All n) : CallN 56 [] .stmt (n + 1) := by
  intro c w s R lv h hr hlv hle hne
  change Calls _ _ #[.pointer (some ⟨c.bp, 0, none⟩)] w (PostN c w s (stmtB (pRun n) lv R))
  have HN : Hid (stmtB (pRun n) lv R ≠ .out) := hne
  have HL : Hid (s.lv = (lv : Int)) := hlv
  clear hne hlv
  have m0 := Mid.start h hr
  clear hr
  obtain ⟨i0, hi0, hz0, hz1, hz2⟩ := info_parts Tryz.infoInt
  go_enter_defers Tryz.func56, Tryz.ntmps56
  refine Code.wp_mono (DPost.imp (leaves_thrown (c := c) (w := w) (s := s) (r := stmtB (pRun n) lv R) (B := w.heap.size) (fun en p e w' he hb => PostN.bad hb he))) ?_
  go_wp2_with fail
  by_cases h200 : 200 < lv + 1
  · refine (deeper_no m0.ps m0.rem (m0.lv HL.out) h200 (by omega)).mono ?_
    rintro e wz post
    have hb2 := Bad.trans m0.fr post
    obtain ⟨rfl, _⟩ := post
    exact Or.inl ⟨rfl, PostN.bad hb2 (by simp [stmtB, exprS, Res.bind, fail, ok1, need, name, h200, fail])⟩
  have hleD : lv + 1 ≤ 200 := by omega
  refine (deeper_ok m0.ps (m0.lv HL.out) h200).mono ?_
  rintro e wD ⟨rfl, hp, hf, hbx, hsz⟩
  have ubD : Box c wD (s.at_ ((lv : Int) + 1)) w.heap.size := Fr.box m0.ps hf hbx (fun _ h => h)
  have mD := Mid.start hp m0.rem
  have HLD : Hid ((s.at_ ((lv : Int) + 1)).lv = ((lv + 1 : Nat) : Int)) := hidden (by simp [St.at_])
  have hroomD : (s.at_ ((lv : Int) + 1)).ns.length ≤ (s.at_ ((lv : Int) + 1)).i + 1 := h.room
  clear hp hbx hsz
  clear m0
  have h0 := mD.ps.c0
  have h1 := mD.ps.c1
  have hbp := mD.ps.bp_lt
  have hbl := mD.ps.bl_lt
  have hi := mD.ps.i
  have hlen := mD.ps.len
  have t0 := mD.ps.t0 mD.rem
  have t1 := mD.ps.t1 mD.rem
  have t2 := mD.ps.t2 mD.rem
  have t3 := mD.ps.t3 mD.rem
  go_wp2
  go_region
  clear h0 h1 hbp hbl hi hlen t0 t1 t2 t3
  have ubD' := ubD.below (((Below.refl _ _).alloc (Nat.le_refl _) (.cells #[.int .u8 (hd R).kind, .int .i64 (hd R).pos, .string ⟨(hd R).text.toArray⟩, .float .f64 (hd R).num] 59)).drew)
  obtain ⟨m2, g1⟩ := mD.held
  clear mD
  change Mid c wD (s.at_ ((lv : Int) + 1)) ((wD.alloc (.cells #[.int .u8 (hd R).kind, .int .i64 (hd R).pos, .string ⟨(hd R).text.toArray⟩, .float .f64 (hd R).num] 59)).drew) _ _ _ _ _ at m2
  change Held c ((wD.alloc (.cells #[.int .u8 (hd R).kind, .int .i64 (hd R).pos, .string ⟨(hd R).text.toArray⟩, .float .f64 (hd R).num] 59)).drew) _ _ _ at g1
  generalize ((wD.alloc (.cells #[.int .u8 (hd R).kind, .int .i64 (hd R).pos, .string ⟨(hd R).text.toArray⟩, .float .f64 (hd R).num] 59)).drew) = w3 at m2 g1 ubD' ⊢
  have u4 := ubD'
  clear ubD' ubD
  by_cases hk5 : ((hd R).kind == 2) = true
  · have hk5a : (((hd R).kind : Int) == 2) = true := by rw [← hk5]; exact beqK _ 2
    have hk5b : ((hd R).kind : Int) = 2 := by simp at hk5; omega
    have hk5c : (((hd R).kind : Int) != 2) = false := by simp only [bne, hk5a]; rfl
    have zt0 := g1.c0
    have zt1 := g1.c1
    have zt2 := g1.c2
    have zt3 := g1.c3
    have ztb : ¬ wD.heap.size = c.bp := fun e => g1.free (.inl e)
    have ztc : ¬ c.bp = wD.heap.size := fun e => g1.free (.inl e.symm)
    have ztl := g1.lt
    go_wp2_with fail
    clear zt0 zt1 zt2 zt3 ztb ztc ztl
    refine (is_calls m2.ps m2.rem [123]).mono ?_
    rintro e w7 ⟨rfl, hb⟩
    have u4' := u4.below hb
    have g1' := g1.below hb
    have m8 := m2.below hb
    clear m2
    have u9 := u4'
    clear u4' u4
    have g10 := g1'
    clear g1' g1
    clear hb
    by_cases hq6 : isTok (hd R) [123] = true
    · skip
      have zt0 := g10.c0
      have zt1 := g10.c1
      have zt2 := g10.c2
      have zt3 := g10.c3
      have ztb : ¬ wD.heap.size = c.bp := fun e => g10.free (.inl e)
      have ztc : ¬ c.bp = wD.heap.size := fun e => g10.free (.inl e.symm)
      have ztl := g10.lt
      go_wp2_with fail
      clear zt0 zt1 zt2 zt3 ztb ztc ztl
      have HChc11 : Hid (pRun n (.block (lv + 1)) R ≠ .out) := fun e => HN.out (by simp [stmtB, exprS, Res.bind, fail, ok1, need, name, h200, hk5, hq6, e])
      refine (ih.block _ _ _ _ _ m8.ps m8.rem (m8.lv HLD.out) hleD HChc11.out).mono ?_
      rintro e w12 hpost
      rcases hc11 : pRun n (.block (lv + 1)) R with ⟨tshc11, Rhc11⟩ | ⟨en, p⟩ | _
      rotate_left
      · rw [hc11] at hpost
        have hb2 := Box.thrown (r := stmtB (pRun n) lv R) u9 (hf.trans m8.fr) hpost (by simp [stmtB, exprS, Res.bind, fail, ok1, need, name, h200, hk5, hq6, hc11])
        obtain ⟨rfl, _⟩ := hpost
        exact Or.inr ⟨rfl, hb2⟩
      · exact absurd hc11 HChc11.out
      rw [hc11] at hpost
      obtain ⟨shc11, khc11, thc11, rfl, rfl, mm⟩ := hpost
      have m13 := m8.call mm
      have u9' := u9.fr mm.fr
      have g10' := g10.fr mm.fr
      have u14 := u9'
      clear u9' u9
      have g15 := g10'
      clear g10' g10
      have Hhc11 := hidden hc11
      clear mm m8 hc11 HChc11
      have zt0 := g15.c0
      have zt1 := g15.c1
      have zt2 := g15.c2
      have zt3 := g15.c3
      have ztb : ¬ wD.heap.size = c.bp := fun e => g15.free (.inl e)
      have ztc : ¬ c.bp = wD.heap.size := fun e => g15.free (.inl e.symm)
      have ztl := g15.lt
      go_wp2_with fail
      clear zt0 zt1 zt2 zt3 ztb ztc ztl
      (try simp only [Exit.inBlock, Exit.then])
      change Leaves _ _ _ _ [_] FrameMode.returning _
      refine leaves_cons (f := 124) (args := #[.pointer (some ⟨w.heap.size, 0, none⟩)]) (by simp) (by simp [go_sem]) ?_
      refine (up_deferred m13.ps w.heap.size u14.cell (lv := lv) (by rw [m13.lv HLD.out]; push_cast; rfl) (by omega) _).mono ?_
      rintro e u' we ⟨rfl, rfl, hp, hfe⟩
      rw [← HL.out] at hp hfe
      exact ⟨_, results_tmp rfl _ _ _, PostN.fin (Mid.down hf m13 hp hfe) (by simp [stmtB, exprS, Res.bind, fail, ok1, need, name, h200, hk5, hq6, Hhc11.out])⟩
    have hq6n : isTok (hd R) [123] = false := by simpa using hq6
    clear hq6
    have zt0 := g10.c0
    have zt1 := g10.c1
    have zt2 := g10.c2
    have zt3 := g10.c3
    have ztb : ¬ wD.heap.size = c.bp := fun e => g10.free (.inl e)
    have ztc : ¬ c.bp = wD.heap.size := fun e => g10.free (.inl e.symm)
    have ztl := g10.lt
    go_wp2_with fail
    clear zt0 zt1 zt2 zt3 ztb ztc ztl
    by_cases hq16 : isTok (hd R) [59] = true
    · refine (take_yes m8.ps m8.rem [59] hq16).mono ?_
      rintro e w17 ⟨rfl, hp, hf⟩
      have m18 := m8.next hp hf
      have u9' := u9.fr hf
      have g10' := g10.fr hf
      have u19 := u9'
      clear u9' u9
      have g20 := g10'
      clear g10' g10
      clear hp hf m8
      have zt0 := g20.c0
      have zt1 := g20.c1
      have zt2 := g20.c2
      have zt3 := g20.c3
      have ztb : ¬ wD.heap.size = c.bp := fun e => g20.free (.inl e)
      have ztc : ¬ c.bp = wD.heap.size := fun e => g20.free (.inl e.symm)
      have ztl := g20.lt
      go_wp2_with fail
      clear zt0 zt1 zt2 zt3 ztb ztc ztl
      refine (node_mid m18 Lst.nil hroomD 15 (hd R).pos []).mono ?_
      rintro e w21 ⟨s23, k22, rfl, m24, hp⟩
      have u19' := u19.kept hp (by simp [Value.ownBlock])
      have g20' := g20.kept hp (by simp [Value.ownBlock])
      clear hp m18
      have u25 := u19'
      clear u19' u19
      have g26 := g20'
      clear g20' g20
      have zt0 := g26.c0
      have zt1 := g26.c1
      have zt2 := g26.c2
      have zt3 := g26.c3
      have ztb : ¬ wD.heap.size = c.bp := fun e => g26.free (.inl e)
      have ztc : ¬ c.bp = wD.heap.size := fun e => g26.free (.inl e.symm)
      have ztl := g26.lt
      go_wp2_with fail
      clear zt0 zt1 zt2 zt3 ztb ztc ztl
      (try simp only [Exit.inBlock, Exit.then])
      change Leaves _ _ _ _ [_] FrameMode.returning _
      refine leaves_cons (f := 124) (args := #[.pointer (some ⟨w.heap.size, 0, none⟩)]) (by simp) (by simp [go_sem]) ?_
      refine (up_deferred m24.ps w.heap.size u25.cell (lv := lv) (by rw [m24.lv HLD.out]; push_cast; rfl) (by omega) _).mono ?_
      rintro e u' we ⟨rfl, rfl, hp, hfe⟩
      rw [← HL.out] at hp hfe
      exact ⟨_, results_tmp rfl _ _ _, PostN.fin (Mid.down hf m24 hp hfe) (by simp [stmtB, exprS, Res.bind, fail, ok1, need, name, h200, hk5, hq6n, hq16])⟩
    · refine (take_no m8.ps m8.rem [59] (by simpa using hq16)).mono ?_
      rintro e w27 ⟨rfl, hb⟩
      have u9' := u9.below hb
      have g10' := g10.below hb
      have m28 := m8.below hb
      clear m8
      have u29 := u9'
      clear u9' u9
      have g30 := g10'
      clear g10' g10
      clear hb
      have zt0 := g30.c0
      have zt1 := g30.c1
      have zt2 := g30.c2
      have zt3 := g30.c3
      have ztb : ¬ wD.heap.size = c.bp := fun e => g30.free (.inl e)
      have ztc : ¬ c.bp = wD.heap.size := fun e => g30.free (.inl e.symm)
      have ztl := g30.lt
      go_wp2_with fail
      clear zt0 zt1 zt2 zt3 ztb ztc ztl
      by_cases hq31 : isTok (hd R) [108, 101, 116] = true
      · refine (take_yes m28.ps m28.rem [108, 101, 116] hq31).mono ?_
        rintro e w32 ⟨rfl, hp, hf⟩
        have m33 := m28.next hp hf
        have u29' := u29.fr hf
        have g30' := g30.fr hf
        have u34 := u29'
        clear u29' u29
        have g35 := g30'
        clear g30' g30
        clear hp hf m28
        have zt0 := g35.c0
        have zt1 := g35.c1
        have zt2 := g35.c2
        have zt3 := g35.c3
        have ztb : ¬ wD.heap.size = c.bp := fun e => g35.free (.inl e)
        have ztc : ¬ c.bp = wD.heap.size := fun e => g35.free (.inl e.symm)
        have ztl := g35.lt
        go_wp2_with fail
        clear zt0 zt1 zt2 zt3 ztb ztc ztl
        have u34' := u34.below ((Below.refl _ _).drew)
        have g35' := g35.below ((Below.refl _ _).drew)
        have m36 := m33.below ((Below.refl _ _).drew)
        clear m33
        have u37 := u34'
        clear u34' u34
        have g38 := g35'
        clear g35' g35
        have q39 := g38.c1
        have q40 := g38.lt
        go_region_held2 (fun w' => w'.cell? ⟨wD.heap.size, 1, none⟩ = some (.int .i64 (hd R).pos))
          (first | assumption | go_keep)
          (first
            | (go_at_call 94
               refine (is2_any m36.ps m36.rem [61]).mono ?_
               rintro e w41 ⟨rfl, hb⟩
               have u37' := u37.below hb
               have g38' := g38.below hb
               have m42 := m36.below hb
               clear m36
               have u43 := u37'
               clear u37' u37
               have g44 := g38'
               clear g38' g38
               clear hb
               clear q39
               clear q40
               have q45 := g44.c1
               have q46 := g44.lt)
            | (go_at_call 93
               have HChc47 : Hid (pRun n (.declared (lv + 1) 3 (hd R).pos (is2 [61] R.tail)) R.tail ≠ .out) := fun e => HN.out (by simp [stmtB, exprS, Res.bind, fail, ok1, need, name, h200, hk5, hq6n, hq16, hq31, e])
               refine (ih.declared 3 (hd R).pos (is2 [61] R.tail) _ _ _ _ _ m42.ps m42.rem (m42.lv HLD.out) hleD HChc47.out).mono ?_
               rintro e w48 hpost
               rcases hc47 : pRun n (.declared (lv + 1) 3 (hd R).pos (is2 [61] R.tail)) R.tail with ⟨tshc47, Rhc47⟩ | ⟨en, p⟩ | _
               rotate_left
               · rw [hc47] at hpost
                 have hb2 := Box.thrown (r := stmtB (pRun n) lv R) u43 (hf.trans m42.fr) hpost (by simp [stmtB, exprS, Res.bind, fail, ok1, need, name, h200, hk5, hq6n, hq16, hq31, hc47])
                 obtain ⟨rfl, _⟩ := hpost
                 exact Or.inr ⟨rfl, hb2⟩
               · exact absurd hc47 HChc47.out
               rw [hc47] at hpost
               obtain ⟨shc47, khc47, thc47, rfl, rfl, mm⟩ := hpost
               have m49 := m42.call mm
               have u43' := u43.fr mm.fr
               have g44' := g44.fr mm.fr
               have u50 := u43'
               clear u43' u43
               have g51 := g44'
               clear g44' g44
               have Hhc47 := hidden hc47
               clear mm m42 hc47 HChc47
               clear q45
               clear q46
               have q52 := g51.c1
               have q53 := g51.lt))
        clear q52
        clear q53
        have zt0 := g51.c0
        have zt1 := g51.c1
        have zt2 := g51.c2
        have zt3 := g51.c3
        have ztb : ¬ wD.heap.size = c.bp := fun e => g51.free (.inl e)
        have ztc : ¬ c.bp = wD.heap.size := fun e => g51.free (.inl e.symm)
        have ztl := g51.lt
        go_wp2_with fail
        clear zt0 zt1 zt2 zt3 ztb ztc ztl
        (try simp only [Exit.inBlock, Exit.then])
        change Leaves _ _ _ _ [_] FrameMode.returning _
        refine leaves_cons (f := 124) (args := #[.pointer (some ⟨w.heap.size, 0, none⟩)]) (by simp) (by simp [go_sem]) ?_
        refine (up_deferred m49.ps w.heap.size u50.cell (lv := lv) (by rw [m49.lv HLD.out]; push_cast; rfl) (by omega) _).mono ?_
        rintro e u' we ⟨rfl, rfl, hp, hfe⟩
        rw [← HL.out] at hp hfe
        exact ⟨_, results_tmp rfl _ _ _, PostN.fin (Mid.down hf m49 hp hfe) (by simp [stmtB, exprS, Res.bind, fail, ok1, need, name, h200, hk5, hq6n, hq16, hq31, Hhc47.out])⟩
      · refine (take_no m28.ps m28.rem [108, 101, 116] (by simpa using hq31)).mono ?_
        rintro e w54 ⟨rfl, hb⟩
        have u29' := u29.below hb
        have g30' := g30.below hb
        have m55 := m28.below hb
        clear m28
        have u56 := u29'
        clear u29' u29
        have g57 := g30'
        clear g30' g30
        clear hb
        have zt0 := g57.c0
        have zt1 := g57.c1
        have zt2 := g57.c2
        have zt3 := g57.c3
        have ztb : ¬ wD.heap.size = c.bp := fun e => g57.free (.inl e)
        have ztc : ¬ c.bp = wD.heap.size := fun e => g57.free (.inl e.symm)
        have ztl := g57.lt
        go_wp2_with fail
        clear zt0 zt1 zt2 zt3 ztb ztc ztl
        by_cases hq58 : isTok (hd R) [99, 111, 110, 115, 116] = true
        · refine (take_yes m55.ps m55.rem [99, 111, 110, 115, 116] hq58).mono ?_
          rintro e w59 ⟨rfl, hp, hf⟩
          have m60 := m55.next hp hf
          have u56' := u56.fr hf
          have g57' := g57.fr hf
          have u61 := u56'
          clear u56' u56
          have g62 := g57'
          clear g57' g57
          clear hp hf m55
          have zt0 := g62.c0
          have zt1 := g62.c1
          have zt2 := g62.c2
          have zt3 := g62.c3
          have ztb : ¬ wD.heap.size = c.bp := fun e => g62.free (.inl e)
          have ztc : ¬ c.bp = wD.heap.size := fun e => g62.free (.inl e.symm)
          have ztl := g62.lt
          go_wp2_with fail
          clear zt0 zt1 zt2 zt3 ztb ztc ztl
          have HChc63 : Hid (pRun n (.declared (lv + 1) 4 (hd R).pos true) R.tail ≠ .out) := fun e => HN.out (by simp [stmtB, exprS, Res.bind, fail, ok1, need, name, h200, hk5, hq6n, hq16, hq31, hq58, e])
          refine (ih.declared 4 (hd R).pos true _ _ _ _ _ m60.ps m60.rem (m60.lv HLD.out) hleD HChc63.out).mono ?_
          rintro e w64 hpost
          rcases hc63 : pRun n (.declared (lv + 1) 4 (hd R).pos true) R.tail with ⟨tshc63, Rhc63⟩ | ⟨en, p⟩ | _
          rotate_left
          · rw [hc63] at hpost
            have hb2 := Box.thrown (r := stmtB (pRun n) lv R) u61 (hf.trans m60.fr) hpost (by simp [stmtB, exprS, Res.bind, fail, ok1, need, name, h200, hk5, hq6n, hq16, hq31, hq58, hc63])
            obtain ⟨rfl, _⟩ := hpost
            exact Or.inr ⟨rfl, hb2⟩
          · exact absurd hc63 HChc63.out
          rw [hc63] at hpost
          obtain ⟨shc63, khc63, thc63, rfl, rfl, mm⟩ := hpost
          have m65 := m60.call mm
          have u61' := u61.fr mm.fr
          have g62' := g62.fr mm.fr
          have u66 := u61'
          clear u61' u61
          have g67 := g62'
          clear g62' g62
          have Hhc63 := hidden hc63
          clear mm m60 hc63 HChc63
          have zt0 := g67.c0
          have zt1 := g67.c1
          have zt2 := g67.c2
          have zt3 := g67.c3
          have ztb : ¬ wD.heap.size = c.bp := fun e => g67.free (.inl e)
          have ztc : ¬ c.bp = wD.heap.size := fun e => g67.free (.inl e.symm)
          have ztl := g67.lt
          go_wp2_with fail
          clear zt0 zt1 zt2 zt3 ztb ztc ztl
          (try simp only [Exit.inBlock, Exit.then])
          change Leaves _ _ _ _ [_] FrameMode.returning _
          refine leaves_cons (f := 124) (args := #[.pointer (some ⟨w.heap.size, 0, none⟩)]) (by simp) (by simp [go_sem]) ?_
          refine (up_deferred m65.ps w.heap.size u66.cell (lv := lv) (by rw [m65.lv HLD.out]; push_cast; rfl) (by omega) _).mono ?_
          rintro e u' we ⟨rfl, rfl, hp, hfe⟩
          rw [← HL.out] at hp hfe
          exact ⟨_, results_tmp rfl _ _ _, PostN.fin (Mid.down hf m65 hp hfe) (by simp [stmtB, exprS, Res.bind, fail, ok1, need, name, h200, hk5, hq6n, hq16, hq31, hq58, Hhc63.out])⟩
        · refine (take_no m55.ps m55.rem [99, 111, 110, 115, 116] (by simpa using hq58)).mono ?_
          rintro e w68 ⟨rfl, hb⟩
          have u56' := u56.below hb
          have g57' := g57.below hb
          have m69 := m55.below hb
          clear m55
          have u70 := u56'
          clear u56' u56
          have g71 := g57'
          clear g57' g57
          clear hb
          have zt0 := g71.c0
          have zt1 := g71.c1
          have zt2 := g71.c2
          have zt3 := g71.c3
          have ztb : ¬ wD.heap.size = c.bp := fun e => g71.free (.inl e)
          have ztc : ¬ c.bp = wD.heap.size := fun e => g71.free (.inl e.symm)
          have ztl := g71.lt
          go_wp2_with fail
          clear zt0 zt1 zt2 zt3 ztb ztc ztl
          by_cases hq72 : isTok (hd R) [102, 117, 110, 99, 116, 105, 111, 110] = true
          · refine (take_yes m69.ps m69.rem [102, 117, 110, 99, 116, 105, 111, 110] hq72).mono ?_
            rintro e w73 ⟨rfl, hp, hf⟩
            have m74 := m69.next hp hf
            have u70' := u70.fr hf
            have g71' := g71.fr hf
            have u75 := u70'
            clear u70' u70
            have g76 := g71'
            clear g71' g71
            clear hp hf m69
            have zt0 := g76.c0
            have zt1 := g76.c1
            have zt2 := g76.c2
            have zt3 := g76.c3
            have ztb : ¬ wD.heap.size = c.bp := fun e => g76.free (.inl e)
            have ztc : ¬ c.bp = wD.heap.size := fun e => g76.free (.inl e.symm)
            have ztl := g76.lt
            go_wp2_with fail
            clear zt0 zt1 zt2 zt3 ztb ztc ztl
            by_cases hx77 : ((hd R.tail).kind == 1) = true
            rotate_left
            · refine (name_no m74.ps m74.rem (by simpa using hx77)).mono ?_
              rintro e wz hbad
              have hb2 := Box.thrown (r := stmtB (pRun n) lv R) u75 (hf.trans m74.fr) hbad (by simp [stmtB, exprS, Res.bind, fail, ok1, need, name, h200, hk5, hq6n, hq16, hq31, hq58, hq72, hx77])
              obtain ⟨rfl, _⟩ := hbad
              exact Or.inr ⟨rfl, hb2⟩
            refine (name_yes m74.ps m74.rem hx77).mono ?_
            rintro e w78 ⟨rfl, hp, hf⟩
            have m79 := m74.next hp hf
            have u75' := u75.fr hf
            have g76' := g76.fr hf
            have u80 := u75'
            clear u75' u75
            have g81 := g76'
            clear g76' g76
            clear hp hf m74
            go_wp2_with fail
            have u80' := u80.below ((Below.refl _ _).drew)
            have g81' := g81.below ((Below.refl _ _).drew)
            have m82 := m79.below ((Below.refl _ _).drew)
            clear m79
            have u83 := u80'
            clear u80' u80
            have g84 := g81'
            clear g81' g81
            have q85 := g84.c1
            have q86 := g84.lt
            go_region_held2 (fun w' => w'.cell? ⟨wD.heap.size, 1, none⟩ = some (.int .i64 (hd R).pos))
              (first | assumption | go_keep)
              (first
                | (go_at_call 96
                   have HChc87 : Hid (pRun n (.rest (lv + 1)) R.tail.tail ≠ .out) := fun e => HN.out (by simp [stmtB, exprS, Res.bind, fail, ok1, need, name, h200, hk5, hq6n, hq16, hq31, hq58, hq72, hx77, e])
                   refine (ih.rest _ _ _ _ _ m82.ps m82.rem (m82.lv HLD.out) hleD HChc87.out).mono ?_
                   rintro e w88 hpost
                   rcases hc87 : pRun n (.rest (lv + 1)) R.tail.tail with ⟨tshc87, Rhc87⟩ | ⟨en, p⟩ | _
                   rotate_left
                   · rw [hc87] at hpost
                     have hb2 := Box.thrown (r := stmtB (pRun n) lv R) u83 (hf.trans m82.fr) hpost (by simp [stmtB, exprS, Res.bind, fail, ok1, need, name, h200, hk5, hq6n, hq16, hq31, hq58, hq72, hx77, hc87])
                     obtain ⟨rfl, _⟩ := hpost
                     exact Or.inr ⟨rfl, hb2⟩
                   · exact absurd hc87 HChc87.out
                   rw [hc87] at hpost
                   obtain ⟨shc87, vhc87, khc87, rfl, mm, l89⟩ := hpost
                   have m90 := m82.call mm
                   have lt91 := u83.lt
                   have lt92 := g84.lt
                   have u83' := u83.fr mm.fr
                   have g84' := g84.fr mm.fr
                   have u93 := u83'
                   clear u83' u83
                   have g94 := g84'
                   clear g84' g84
                   have nb95 : vhc87.ownBlock ≠ some w.heap.size := fun e => by have h1 := (l89.new _ e).2.1; have h2 := lt91; omega
                   have nb96 : vhc87.ownBlock ≠ some wD.heap.size := fun e => by have h1 := (l89.new _ e).2.1; have h2 := lt92; omega
                   have l97 := l89.older m82.fr.size
                   clear l89
                   have Hhc87 := hidden hc87
                   clear mm m82 hc87 HChc87
                   clear q85
                   clear q86
                   have q98 := g94.c1
                   have q99 := g94.lt)
                | (go_at_call 57
                   refine (node_mid m90 l97 hroomD 5 (hd R).pos (hd R.tail).text).mono ?_
                   rintro e w100 ⟨s102, k101, rfl, m103, hp⟩
                   have u93' := u93.kept hp nb95
                   have g94' := g94.kept hp nb96
                   clear hp m90
                   have u104 := u93'
                   clear u93' u93
                   have g105 := g94'
                   clear g94' g94
                   clear q98
                   clear q99
                   have q106 := g105.c1
                   have q107 := g105.lt))
            clear q106
            clear q107
            have zt0 := g105.c0
            have zt1 := g105.c1
            have zt2 := g105.c2
            have zt3 := g105.c3
            have ztb : ¬ wD.heap.size = c.bp := fun e => g105.free (.inl e)
            have ztc : ¬ c.bp = wD.heap.size := fun e => g105.free (.inl e.symm)
            have ztl := g105.lt
            go_wp2_with fail
            clear zt0 zt1 zt2 zt3 ztb ztc ztl
            (try simp only [Exit.inBlock, Exit.then])
            change Leaves _ _ _ _ [_] FrameMode.returning _
            refine leaves_cons (f := 124) (args := #[.pointer (some ⟨w.heap.size, 0, none⟩)]) (by simp) (by simp [go_sem]) ?_
            refine (up_deferred m103.ps w.heap.size u104.cell (lv := lv) (by rw [m103.lv HLD.out]; push_cast; rfl) (by omega) _).mono ?_
            rintro e u' we ⟨rfl, rfl, hp, hfe⟩
            rw [← HL.out] at hp hfe
            exact ⟨_, results_tmp rfl _ _ _, PostN.fin (Mid.down hf m103 hp hfe) (by simp [stmtB, exprS, Res.bind, fail, ok1, need, name, h200, hk5, hq6n, hq16, hq31, hq58, hq72, hx77, Hhc87.out])⟩
          · refine (take_no m69.ps m69.rem [102, 117, 110, 99, 116, 105, 111, 110] (by simpa using hq72)).mono ?_
            rintro e w108 ⟨rfl, hb⟩
            have u70' := u70.below hb
            have g71' := g71.below hb
            have m109 := m69.below hb
            clear m69
            have u110 := u70'
            clear u70' u70
            have g111 := g71'
            clear g71' g71
            clear hb
            have zt0 := g111.c0
            have zt1 := g111.c1
            have zt2 := g111.c2
            have zt3 := g111.c3
            have ztb : ¬ wD.heap.size = c.bp := fun e => g111.free (.inl e)
            have ztc : ¬ c.bp = wD.heap.size := fun e => g111.free (.inl e.symm)
            have ztl := g111.lt
            go_wp2_with fail
            clear zt0 zt1 zt2 zt3 ztb ztc ztl
            by_cases hq112 : isTok (hd R) [105, 102] = true
            · refine (take_yes m109.ps m109.rem [105, 102] hq112).mono ?_
              rintro e w113 ⟨rfl, hp, hf⟩
              have m114 := m109.next hp hf
              have u110' := u110.fr hf
              have g111' := g111.fr hf
              have u115 := u110'
              clear u110' u110
              have g116 := g111'
              clear g111' g111
              clear hp hf m109
              have zt0 := g116.c0
              have zt1 := g116.c1
              have zt2 := g116.c2
              have zt3 := g116.c3
              have ztb : ¬ wD.heap.size = c.bp := fun e => g116.free (.inl e)
              have ztc : ¬ c.bp = wD.heap.size := fun e => g116.free (.inl e.symm)
              have ztl := g116.lt
              go_wp2_with fail
              clear zt0 zt1 zt2 zt3 ztb ztc ztl
              have HChc117 : Hid (pRun n (.tested (lv + 1)) R.tail ≠ .out) := fun e => HN.out (by simp [stmtB, exprS, Res.bind, fail, ok1, need, name, h200, hk5, hq6n, hq16, hq31, hq58, hq72, hq112, e])
              refine (ih.tested _ _ _ _ _ m114.ps m114.rem (m114.lv HLD.out) hleD HChc117.out).mono ?_
              rintro e w118 hpost
              rcases hc117 : pRun n (.tested (lv + 1)) R.tail with ⟨tshc117, Rhc117⟩ | ⟨en, p⟩ | _
              rotate_left
              · rw [hc117] at hpost
                have hb2 := Box.thrown (r := stmtB (pRun n) lv R) u115 (hf.trans m114.fr) hpost (by simp [stmtB, exprS, Res.bind, fail, ok1, need, name, h200, hk5, hq6n, hq16, hq31, hq58, hq72, hq112, hc117])
                obtain ⟨rfl, _⟩ := hpost
                exact Or.inr ⟨rfl, hb2⟩
              · exact absurd hc117 HChc117.out
              rw [hc117] at hpost
              obtain ⟨shc117, vhc117, khc117, rfl, mm, l119⟩ := hpost
              have m120 := m114.call mm
              have lt121 := u115.lt
              have lt122 := g116.lt
              have u115' := u115.fr mm.fr
              have g116' := g116.fr mm.fr
              have u123 := u115'
              clear u115' u115
              have g124 := g116'
              clear g116' g116
              have nb125 : vhc117.ownBlock ≠ some w.heap.size := fun e => by have h1 := (l119.new _ e).2.1; have h2 := lt121; omega
              have nb126 : vhc117.ownBlock ≠ some wD.heap.size := fun e => by have h1 := (l119.new _ e).2.1; have h2 := lt122; omega
              have l127 := l119.older m114.fr.size
              clear l119
              have Hhc117 := hidden hc117
              clear mm m114 hc117 HChc117
              have zt0 := g124.c0
              have zt1 := g124.c1
              have zt2 := g124.c2
              have zt3 := g124.c3
              have ztb : ¬ wD.heap.size = c.bp := fun e => g124.free (.inl e)
              have ztc : ¬ c.bp = wD.heap.size := fun e => g124.free (.inl e.symm)
              have ztl := g124.lt
              go_wp2_with fail
              clear zt0 zt1 zt2 zt3 ztb ztc ztl
              by_cases hq128 : isTok (hd Rhc117) [101, 108, 115, 101] = true
              · refine (take_yes m120.ps m120.rem [101, 108, 115, 101] hq128).mono ?_
                rintro e w129 ⟨rfl, hp, hf⟩
                have m130 := m120.next hp hf
                have l127' := l127.fr hf
                have u123' := u123.fr hf
                have g124' := g124.fr hf
                have l131 := l127'
                clear l127' l127
                have u132 := u123'
                clear u123' u123
                have g133 := g124'
                clear g124' g124
                clear hp hf m120
                have zt0 := g133.c0
                have zt1 := g133.c1
                have zt2 := g133.c2
                have zt3 := g133.c3
                have ztb : ¬ wD.heap.size = c.bp := fun e => g133.free (.inl e)
                have ztc : ¬ c.bp = wD.heap.size := fun e => g133.free (.inl e.symm)
                have ztl := g133.lt
                go_wp2_with fail
                clear zt0 zt1 zt2 zt3 ztb ztc ztl
                have HChc134 : Hid (pRun n (.body (lv + 1)) Rhc117.tail ≠ .out) := fun e => HN.out (by simp [stmtB, exprS, Res.bind, fail, ok1, need, name, h200, hk5, hq6n, hq16, hq31, hq58, hq72, hq112, Hhc117.out, hq128, e])
                refine (ih.body _ _ _ _ _ m130.ps m130.rem (m130.lv HLD.out) hleD HChc134.out).mono ?_
                rintro e w135 hpost
                rcases hc134 : pRun n (.body (lv + 1)) Rhc117.tail with ⟨tshc134, Rhc134⟩ | ⟨en, p⟩ | _
                rotate_left
                · rw [hc134] at hpost
                  have hb2 := Box.thrown (r := stmtB (pRun n) lv R) u132 (hf.trans m130.fr) hpost (by simp [stmtB, exprS, Res.bind, fail, ok1, need, name, h200, hk5, hq6n, hq16, hq31, hq58, hq72, hq112, Hhc117.out, hq128, hc134])
                  obtain ⟨rfl, _⟩ := hpost
                  exact Or.inr ⟨rfl, hb2⟩
                · exact absurd hc134 HChc134.out
                rw [hc134] at hpost
                obtain ⟨shc134, khc134, thc134, rfl, rfl, mm⟩ := hpost
                have m136 := m130.call mm
                have l131' := l131.fr mm.fr
                have u132' := u132.fr mm.fr
                have g133' := g133.fr mm.fr
                have l137 := l131'
                clear l131' l131
                have u138 := u132'
                clear u132' u132
                have g139 := g133'
                clear g133' g133
                have Hhc134 := hidden hc134
                clear mm m130 hc134 HChc134
                have hbase := m136.ps.bp_lt
                have hkl := m136.kids_le
                have l0 : Lst c wD w135 (shc134) (vhc117) khc117 := l137
                have hrow := l0.row
                go_wp2_with (at_builtin; refine wpList_append_lies _ rfl _ _ 30 rfl (c.bp + 1) 3 i0 _ 1 8 Tryz.underlying30 hi0 hz0 hz1 hz2 rfl (by decide) (vhc117) (khc117).length (ints khc117) rfl (World.ownsRow.alloc hrow _) ⟨w135.heap.size, 0, none⟩ 1 1 [.int .i64 khc134] rfl rfl ?c1 ?c2 ?c3 ?c4 ?c5 ?c6 (w135.heap.size + 1) ?c7 ?_)
                case c1 => exact World.news_of_block (cs := #[.int .i64 khc134]) (t := 3) (fr := (0, 0)) (heap_alloc_new w135 _)
                case c2 => simp [Value.oneCell']
                case c3 => decide
                case c4 => unfold maxLen; first | omega | (simp at hkl ⊢; done) | (simp at hkl ⊢; omega)
                case c5 => first | omega | (simp at hkl ⊢; done) | (simp at hkl ⊢; omega)
                case c6 => simp; omega
                case c7 => simp
                intro g140 cap141 w142 hown hgrow hat hlt
                have nb145 : (Value.slice (some ⟨g140, 0, none⟩) ((khc117).length + 1) cap141).ownBlock ≠ some w.heap.size := by
                  intro e
                  have e' : g140 = w.heap.size := by simpa [Value.ownBlock] using e
                  rcases hat with h1 | h1
                  · exact nb125 (h1.trans (by rw [e']))
                  · have := u138.lt; omega
                have nb146 : (Value.slice (some ⟨g140, 0, none⟩) ((khc117).length + 1) cap141).ownBlock ≠ some wD.heap.size := by
                  intro e
                  have e' : g140 = wD.heap.size := by simpa [Value.ownBlock] using e
                  rcases hat with h1 | h1
                  · exact nb126 (h1.trans (by rw [e']))
                  · have := g139.lt; omega
                have hgg147 := grownBy_trans (World.grownBy_alloc w135 _ none) hgrow
                have u138' := u138.grown hgg147 nb125
                have g139' := g139.grown hgg147 nb126
                obtain ⟨m143, l144⟩ := m136.append l0 (World.grownBy_alloc w135 _ none) hgrow hown (hat.imp id (by omega))
                clear hown hgrow hat hlt hrow l0 hbase hkl m136
                have g148 := u138'
                clear u138' u138
                have g149 := g139'
                clear g139' g139
                have zt0 := g149.c0
                have zt1 := g149.c1
                have zt2 := g149.c2
                have zt3 := g149.c3
                have ztb : ¬ wD.heap.size = c.bp := fun e => g149.free (.inl e)
                have ztc : ¬ c.bp = wD.heap.size := fun e => g149.free (.inl e.symm)
                have ztl := g149.lt
                go_wp2_with fail
                clear zt0 zt1 zt2 zt3 ztb ztc ztl
                refine (node_mid m143 l144 hroomD 7 (hd R).pos []).mono ?_
                rintro e w150 ⟨s152, k151, rfl, m153, hp⟩
                have g148' := g148.kept hp nb145
                have g149' := g149.kept hp nb146
                clear hp m143
                have g154 := g148'
                clear g148' g148
                have g155 := g149'
                clear g149' g149
                have zt0 := g155.c0
                have zt1 := g155.c1
                have zt2 := g155.c2
                have zt3 := g155.c3
                have ztb : ¬ wD.heap.size = c.bp := fun e => g155.free (.inl e)
                have ztc : ¬ c.bp = wD.heap.size := fun e => g155.free (.inl e.symm)
                have ztl := g155.lt
                go_wp2_with fail
                clear zt0 zt1 zt2 zt3 ztb ztc ztl
                (try simp only [Exit.inBlock, Exit.then])
                change Leaves _ _ _ _ [_] FrameMode.returning _
                refine leaves_cons (f := 124) (args := #[.pointer (some ⟨w.heap.size, 0, none⟩)]) (by simp) (by simp [go_sem]) ?_
                refine (up_deferred m153.ps w.heap.size g154.cell (lv := lv) (by rw [m153.lv HLD.out]; push_cast; rfl) (by omega) _).mono ?_
                rintro e u' we ⟨rfl, rfl, hp, hfe⟩
                rw [← HL.out] at hp hfe
                exact ⟨_, results_tmp rfl _ _ _, PostN.fin (Mid.down hf m153 hp hfe) (by simp [stmtB, exprS, Res.bind, fail, ok1, need, name, h200, hk5, hq6n, hq16, hq31, hq58, hq72, hq112, Hhc117.out, hq128, Hhc134.out])⟩
              · refine (take_no m120.ps m120.rem [101, 108, 115, 101] (by simpa using hq128)).mono ?_
                rintro e w156 ⟨rfl, hb⟩
                have l127' := l127.below hb
                have u123' := u123.below hb
                have g124' := g124.below hb
                have m157 := m120.below hb
                clear m120
                have l158 := l127'
                clear l127' l127
                have u159 := u123'
                clear u123' u123
                have g160 := g124'
                clear g124' g124
                clear hb
                have zt0 := g160.c0
                have zt1 := g160.c1
                have zt2 := g160.c2
                have zt3 := g160.c3
                have ztb : ¬ wD.heap.size = c.bp := fun e => g160.free (.inl e)
                have ztc : ¬ c.bp = wD.heap.size := fun e => g160.free (.inl e.symm)
                have ztl := g160.lt
                go_wp2_with fail
                clear zt0 zt1 zt2 zt3 ztb ztc ztl
                refine (node_mid m157 l158 hroomD 7 (hd R).pos []).mono ?_
                rintro e w161 ⟨s163, k162, rfl, m164, hp⟩
                have u159' := u159.kept hp nb125
                have g160' := g160.kept hp nb126
                clear hp m157
                have u165 := u159'
                clear u159' u159
                have g166 := g160'
                clear g160' g160
                have zt0 := g166.c0
                have zt1 := g166.c1
                have zt2 := g166.c2
                have zt3 := g166.c3
                have ztb : ¬ wD.heap.size = c.bp := fun e => g166.free (.inl e)
                have ztc : ¬ c.bp = wD.heap.size := fun e => g166.free (.inl e.symm)
                have ztl := g166.lt
                go_wp2_with fail
                clear zt0 zt1 zt2 zt3 ztb ztc ztl
                (try simp only [Exit.inBlock, Exit.then])
                change Leaves _ _ _ _ [_] FrameMode.returning _
                refine leaves_cons (f := 124) (args := #[.pointer (some ⟨w.heap.size, 0, none⟩)]) (by simp) (by simp [go_sem]) ?_
                refine (up_deferred m164.ps w.heap.size u165.cell (lv := lv) (by rw [m164.lv HLD.out]; push_cast; rfl) (by omega) _).mono ?_
                rintro e u' we ⟨rfl, rfl, hp, hfe⟩
                rw [← HL.out] at hp hfe
                exact ⟨_, results_tmp rfl _ _ _, PostN.fin (Mid.down hf m164 hp hfe) (by simp [stmtB, exprS, Res.bind, fail, ok1, need, name, h200, hk5, hq6n, hq16, hq31, hq58, hq72, hq112, Hhc117.out, hq128])⟩
            · refine (take_no m109.ps m109.rem [105, 102] (by simpa using hq112)).mono ?_
              rintro e w167 ⟨rfl, hb⟩
              have u110' := u110.below hb
              have g111' := g111.below hb
              have m168 := m109.below hb
              clear m109
              have u169 := u110'
              clear u110' u110
              have g170 := g111'
              clear g111' g111
              clear hb
              have zt0 := g170.c0
              have zt1 := g170.c1
              have zt2 := g170.c2
              have zt3 := g170.c3
              have ztb : ¬ wD.heap.size = c.bp := fun e => g170.free (.inl e)
              have ztc : ¬ c.bp = wD.heap.size := fun e => g170.free (.inl e.symm)
              have ztl := g170.lt
              go_wp2_with fail
              clear zt0 zt1 zt2 zt3 ztb ztc ztl
              by_cases hq171 : isTok (hd R) [119, 104, 105, 108, 101] = true
              · refine (take_yes m168.ps m168.rem [119, 104, 105, 108, 101] hq171).mono ?_
                rintro e w172 ⟨rfl, hp, hf⟩
                have m173 := m168.next hp hf
                have u169' := u169.fr hf
                have g170' := g170.fr hf
                have u174 := u169'
                clear u169' u169
                have g175 := g170'
                clear g170' g170
                clear hp hf m168
                have zt0 := g175.c0
                have zt1 := g175.c1
                have zt2 := g175.c2
                have zt3 := g175.c3
                have ztb : ¬ wD.heap.size = c.bp := fun e => g175.free (.inl e)
                have ztc : ¬ c.bp = wD.heap.size := fun e => g175.free (.inl e.symm)
                have ztl := g175.lt
                go_wp2_with fail
                clear zt0 zt1 zt2 zt3 ztb ztc ztl
                have u174' := u174.below ((Below.refl _ _).drew)
                have g175' := g175.below ((Below.refl _ _).drew)
                have m176 := m173.below ((Below.refl _ _).drew)
                clear m173
                have u177 := u174'
                clear u174' u174
                have g178 := g175'
                clear g175' g175
                have q179 := g178.c1
                have q180 := g178.lt
                go_region_held2 (fun w' => w'.cell? ⟨wD.heap.size, 1, none⟩ = some (.int .i64 (hd R).pos))
                  (first | assumption | go_keep)
                  (first
                    | (go_at_call 97
                       have HChc181 : Hid (pRun n (.tested (lv + 1)) R.tail ≠ .out) := fun e => HN.out (by simp [stmtB, exprS, Res.bind, fail, ok1, need, name, h200, hk5, hq6n, hq16, hq31, hq58, hq72, hq112, hq171, e])
                       refine (ih.tested _ _ _ _ _ m176.ps m176.rem (m176.lv HLD.out) hleD HChc181.out).mono ?_
                       rintro e w182 hpost
                       rcases hc181 : pRun n (.tested (lv + 1)) R.tail with ⟨tshc181, Rhc181⟩ | ⟨en, p⟩ | _
                       rotate_left
                       · rw [hc181] at hpost
                         have hb2 := Box.thrown (r := stmtB (pRun n) lv R) u177 (hf.trans m176.fr) hpost (by simp [stmtB, exprS, Res.bind, fail, ok1, need, name, h200, hk5, hq6n, hq16, hq31, hq58, hq72, hq112, hq171, hc181])
                         obtain ⟨rfl, _⟩ := hpost
                         exact Or.inr ⟨rfl, hb2⟩
                       · exact absurd hc181 HChc181.out
                       rw [hc181] at hpost
                       obtain ⟨shc181, vhc181, khc181, rfl, mm, l183⟩ := hpost
                       have m184 := m176.call mm
                       have lt185 := u177.lt
                       have lt186 := g178.lt
                       have u177' := u177.fr mm.fr
                       have g178' := g178.fr mm.fr
                       have u187 := u177'
                       clear u177' u177
                       have g188 := g178'
                       clear g178' g178
                       have nb189 : vhc181.ownBlock ≠ some w.heap.size := fun e => by have h1 := (l183.new _ e).2.1; have h2 := lt185; omega
                       have nb190 : vhc181.ownBlock ≠ some wD.heap.size := fun e => by have h1 := (l183.new _ e).2.1; have h2 := lt186; omega
                       have l191 := l183.older m176.fr.size
                       clear l183
                       have Hhc181 := hidden hc181
                       clear mm m176 hc181 HChc181
                       clear q179
                       clear q180
                       have q192 := g188.c1
                       have q193 := g188.lt)
                    | (go_at_call 57
                       refine (node_mid m184 l191 hroomD 8 (hd R).pos []).mono ?_
                       rintro e w194 ⟨s196, k195, rfl, m197, hp⟩
                       have u187' := u187.kept hp nb189
                       have g188' := g188.kept hp nb190
                       clear hp m184
                       have u198 := u187'
                       clear u187' u187
                       have g199 := g188'
                       clear g188' g188
                       clear q192
                       clear q193
                       have q200 := g199.c1
                       have q201 := g199.lt))
                clear q200
                clear q201
                have zt0 := g199.c0
                have zt1 := g199.c1
                have zt2 := g199.c2
                have zt3 := g199.c3
                have ztb : ¬ wD.heap.size = c.bp := fun e => g199.free (.inl e)
                have ztc : ¬ c.bp = wD.heap.size := fun e => g199.free (.inl e.symm)
                have ztl := g199.lt
                go_wp2_with fail
                clear zt0 zt1 zt2 zt3 ztb ztc ztl
                (try simp only [Exit.inBlock, Exit.then])
                change Leaves _ _ _ _ [_] FrameMode.returning _
                refine leaves_cons (f := 124) (args := #[.pointer (some ⟨w.heap.size, 0, none⟩)]) (by simp) (by simp [go_sem]) ?_
                refine (up_deferred m197.ps w.heap.size u198.cell (lv := lv) (by rw [m197.lv HLD.out]; push_cast; rfl) (by omega) _).mono ?_
                rintro e u' we ⟨rfl, rfl, hp, hfe⟩
                rw [← HL.out] at hp hfe
                exact ⟨_, results_tmp rfl _ _ _, PostN.fin (Mid.down hf m197 hp hfe) (by simp [stmtB, exprS, Res.bind, fail, ok1, need, name, h200, hk5, hq6n, hq16, hq31, hq58, hq72, hq112, hq171, Hhc181.out])⟩
              · refine (take_no m168.ps m168.rem [119, 104, 105, 108, 101] (by simpa using hq171)).mono ?_
                rintro e w202 ⟨rfl, hb⟩
                have u169' := u169.below hb
                have g170' := g170.below hb
                have m203 := m168.below hb
                clear m168
                have u204 := u169'
                clear u169' u169
                have g205 := g170'
                clear g170' g170
                clear hb
                have zt0 := g205.c0
                have zt1 := g205.c1
                have zt2 := g205.c2
                have zt3 := g205.c3
                have ztb : ¬ wD.heap.size = c.bp := fun e => g205.free (.inl e)
                have ztc : ¬ c.bp = wD.heap.size := fun e => g205.free (.inl e.symm)
                have ztl := g205.lt
                go_wp2_with fail
                clear zt0 zt1 zt2 zt3 ztb ztc ztl
                by_cases hq206 : isTok (hd R) [102, 111, 114] = true
                · refine (take_yes m203.ps m203.rem [102, 111, 114] hq206).mono ?_
                  rintro e w207 ⟨rfl, hp, hf⟩
                  have m208 := m203.next hp hf
                  have u204' := u204.fr hf
                  have g205' := g205.fr hf
                  have u209 := u204'
                  clear u204' u204
                  have g210 := g205'
                  clear g205' g205
                  clear hp hf m203
                  have zt0 := g210.c0
                  have zt1 := g210.c1
                  have zt2 := g210.c2
                  have zt3 := g210.c3
                  have ztb : ¬ wD.heap.size = c.bp := fun e => g210.free (.inl e)
                  have ztc : ¬ c.bp = wD.heap.size := fun e => g210.free (.inl e.symm)
                  have ztl := g210.lt
                  go_wp2_with fail
                  clear zt0 zt1 zt2 zt3 ztb ztc ztl
                  have HChc211 : Hid (pRun n (.loop (lv + 1) (hd R).pos) R.tail ≠ .out) := fun e => HN.out (by simp [stmtB, exprS, Res.bind, fail, ok1, need, name, h200, hk5, hq6n, hq16, hq31, hq58, hq72, hq112, hq171, hq206, e])
                  refine (ih.loop (hd R).pos _ _ _ _ _ m208.ps m208.rem (m208.lv HLD.out) hleD HChc211.out).mono ?_
                  rintro e w212 hpost
                  rcases hc211 : pRun n (.loop (lv + 1) (hd R).pos) R.tail with ⟨tshc211, Rhc211⟩ | ⟨en, p⟩ | _
                  rotate_left
                  · rw [hc211] at hpost
                    have hb2 := Box.thrown (r := stmtB (pRun n) lv R) u209 (hf.trans m208.fr) hpost (by simp [stmtB, exprS, Res.bind, fail, ok1, need, name, h200, hk5, hq6n, hq16, hq31, hq58, hq72, hq112, hq171, hq206, hc211])
                    obtain ⟨rfl, _⟩ := hpost
                    exact Or.inr ⟨rfl, hb2⟩
                  · exact absurd hc211 HChc211.out
                  rw [hc211] at hpost
                  obtain ⟨shc211, khc211, thc211, rfl, rfl, mm⟩ := hpost
                  have m213 := m208.call mm
                  have u209' := u209.fr mm.fr
                  have g210' := g210.fr mm.fr
                  have u214 := u209'
                  clear u209' u209
                  have g215 := g210'
                  clear g210' g210
                  have Hhc211 := hidden hc211
                  clear mm m208 hc211 HChc211
                  have zt0 := g215.c0
                  have zt1 := g215.c1
                  have zt2 := g215.c2
                  have zt3 := g215.c3
                  have ztb : ¬ wD.heap.size = c.bp := fun e => g215.free (.inl e)
                  have ztc : ¬ c.bp = wD.heap.size := fun e => g215.free (.inl e.symm)
                  have ztl := g215.lt
                  go_wp2_with fail
                  clear zt0 zt1 zt2 zt3 ztb ztc ztl
                  (try simp only [Exit.inBlock, Exit.then])
                  change Leaves _ _ _ _ [_] FrameMode.returning _
                  refine leaves_cons (f := 124) (args := #[.pointer (some ⟨w.heap.size, 0, none⟩)]) (by simp) (by simp [go_sem]) ?_
                  refine (up_deferred m213.ps w.heap.size u214.cell (lv := lv) (by rw [m213.lv HLD.out]; push_cast; rfl) (by omega) _).mono ?_
                  rintro e u' we ⟨rfl, rfl, hp, hfe⟩
                  rw [← HL.out] at hp hfe
                  exact ⟨_, results_tmp rfl _ _ _, PostN.fin (Mid.down hf m213 hp hfe) (by simp [stmtB, exprS, Res.bind, fail, ok1, need, name, h200, hk5, hq6n, hq16, hq31, hq58, hq72, hq112, hq171, hq206, Hhc211.out])⟩
                · refine (take_no m203.ps m203.rem [102, 111, 114] (by simpa using hq206)).mono ?_
                  rintro e w216 ⟨rfl, hb⟩
                  have u204' := u204.below hb
                  have g205' := g205.below hb
                  have m217 := m203.below hb
                  clear m203
                  have u218 := u204'
                  clear u204' u204
                  have g219 := g205'
                  clear g205' g205
                  clear hb
                  have zt0 := g219.c0
                  have zt1 := g219.c1
                  have zt2 := g219.c2
                  have zt3 := g219.c3
                  have ztb : ¬ wD.heap.size = c.bp := fun e => g219.free (.inl e)
                  have ztc : ¬ c.bp = wD.heap.size := fun e => g219.free (.inl e.symm)
                  have ztl := g219.lt
                  go_wp2_with fail
                  clear zt0 zt1 zt2 zt3 ztb ztc ztl
                  by_cases hq220 : isTok (hd R) [114, 101, 116, 117, 114, 110] = true
                  · refine (take_yes m217.ps m217.rem [114, 101, 116, 117, 114, 110] hq220).mono ?_
                    rintro e w221 ⟨rfl, hp, hf⟩
                    have m222 := m217.next hp hf
                    have u218' := u218.fr hf
                    have g219' := g219.fr hf
                    have u223 := u218'
                    clear u218' u218
                    have g224 := g219'
                    clear g219' g219
                    clear hp hf m217
                    have zt0 := g224.c0
                    have zt1 := g224.c1
                    have zt2 := g224.c2
                    have zt3 := g224.c3
                    have ztb : ¬ wD.heap.size = c.bp := fun e => g224.free (.inl e)
                    have ztc : ¬ c.bp = wD.heap.size := fun e => g224.free (.inl e.symm)
                    have ztl := g224.lt
                    go_wp2_with fail
                    clear zt0 zt1 zt2 zt3 ztb ztc ztl
                    have u223' := u223.below ((Below.refl _ _).drew)
                    have g224' := g224.below ((Below.refl _ _).drew)
                    have m225 := m222.below ((Below.refl _ _).drew)
                    clear m222
                    have u226 := u223'
                    clear u223' u223
                    have g227 := g224'
                    clear g224' g224
                    have q228 := g227.c1
                    have q229 := g227.lt
                    go_region_held2 (fun w' => w'.cell? ⟨wD.heap.size, 1, none⟩ = some (.int .i64 (hd R).pos))
                      (first | assumption | go_keep)
                      (first
                        | (go_at_call 90
                           refine (is_calls m225.ps m225.rem [59]).mono ?_
                           rintro e w230 ⟨rfl, hb⟩
                           have u226' := u226.below hb
                           have g227' := g227.below hb
                           have m231 := m225.below hb
                           clear m225
                           have u232 := u226'
                           clear u226' u226
                           have g233 := g227'
                           clear g227' g227
                           clear hb
                           clear q228
                           clear q229
                           have q234 := g233.c1
                           have q235 := g233.lt)
                        | (go_at_call 100
                           have HChc236 : Hid (pRun n (.jump (lv + 1) 11 (hd R).pos (!isTok (hd R.tail) [59])) R.tail ≠ .out) := fun e => HN.out (by simp [stmtB, exprS, Res.bind, fail, ok1, need, name, h200, hk5, hq6n, hq16, hq31, hq58, hq72, hq112, hq171, hq206, hq220, e])
                           refine (ih.jump 11 (hd R).pos (!isTok (hd R.tail) [59]) _ _ _ _ _ m231.ps m231.rem (m231.lv HLD.out) hleD HChc236.out).mono ?_
                           rintro e w237 hpost
                           rcases hc236 : pRun n (.jump (lv + 1) 11 (hd R).pos (!isTok (hd R.tail) [59])) R.tail with ⟨tshc236, Rhc236⟩ | ⟨en, p⟩ | _
                           rotate_left
                           · rw [hc236] at hpost
                             have hb2 := Box.thrown (r := stmtB (pRun n) lv R) u232 (hf.trans m231.fr) hpost (by simp [stmtB, exprS, Res.bind, fail, ok1, need, name, h200, hk5, hq6n, hq16, hq31, hq58, hq72, hq112, hq171, hq206, hq220, hc236])
                             obtain ⟨rfl, _⟩ := hpost
                             exact Or.inr ⟨rfl, hb2⟩
                           · exact absurd hc236 HChc236.out
                           rw [hc236] at hpost
                           obtain ⟨shc236, khc236, thc236, rfl, rfl, mm⟩ := hpost
                           have m238 := m231.call mm
                           have u232' := u232.fr mm.fr
                           have g233' := g233.fr mm.fr
                           have u239 := u232'
                           clear u232' u232
                           have g240 := g233'
                           clear g233' g233
                           have Hhc236 := hidden hc236
                           clear mm m231 hc236 HChc236
                           clear q234
                           clear q235
                           have q241 := g240.c1
                           have q242 := g240.lt))
                    clear q241
                    clear q242
                    have zt0 := g240.c0
                    have zt1 := g240.c1
                    have zt2 := g240.c2
                    have zt3 := g240.c3
                    have ztb : ¬ wD.heap.size = c.bp := fun e => g240.free (.inl e)
                    have ztc : ¬ c.bp = wD.heap.size := fun e => g240.free (.inl e.symm)
                    have ztl := g240.lt
                    go_wp2_with fail
                    clear zt0 zt1 zt2 zt3 ztb ztc ztl
                    (try simp only [Exit.inBlock, Exit.then])
                    change Leaves _ _ _ _ [_] FrameMode.returning _
                    refine leaves_cons (f := 124) (args := #[.pointer (some ⟨w.heap.size, 0, none⟩)]) (by simp) (by simp [go_sem]) ?_
                    refine (up_deferred m238.ps w.heap.size u239.cell (lv := lv) (by rw [m238.lv HLD.out]; push_cast; rfl) (by omega) _).mono ?_
                    rintro e u' we ⟨rfl, rfl, hp, hfe⟩
                    rw [← HL.out] at hp hfe
                    exact ⟨_, results_tmp rfl _ _ _, PostN.fin (Mid.down hf m238 hp hfe) (by simp [stmtB, exprS, Res.bind, fail, ok1, need, name, h200, hk5, hq6n, hq16, hq31, hq58, hq72, hq112, hq171, hq206, hq220, Hhc236.out])⟩
                  · refine (take_no m217.ps m217.rem [114, 101, 116, 117, 114, 110] (by simpa using hq220)).mono ?_
                    rintro e w243 ⟨rfl, hb⟩
                    have u218' := u218.below hb
                    have g219' := g219.below hb
                    have m244 := m217.below hb
                    clear m217
                    have u245 := u218'
                    clear u218' u218
                    have g246 := g219'
                    clear g219' g219
                    clear hb
                    have zt0 := g246.c0
                    have zt1 := g246.c1
                    have zt2 := g246.c2
                    have zt3 := g246.c3
                    have ztb : ¬ wD.heap.size = c.bp := fun e => g246.free (.inl e)
                    have ztc : ¬ c.bp = wD.heap.size := fun e => g246.free (.inl e.symm)
                    have ztl := g246.lt
                    go_wp2_with fail
                    clear zt0 zt1 zt2 zt3 ztb ztc ztl
                    by_cases hq247 : isTok (hd R) [116, 104, 114, 111, 119] = true
                    · refine (take_yes m244.ps m244.rem [116, 104, 114, 111, 119] hq247).mono ?_
                      rintro e w248 ⟨rfl, hp, hf⟩
                      have m249 := m244.next hp hf
                      have u245' := u245.fr hf
                      have g246' := g246.fr hf
                      have u250 := u245'
                      clear u245' u245
                      have g251 := g246'
                      clear g246' g246
                      clear hp hf m244
                      have zt0 := g251.c0
                      have zt1 := g251.c1
                      have zt2 := g251.c2
                      have zt3 := g251.c3
                      have ztb : ¬ wD.heap.size = c.bp := fun e => g251.free (.inl e)
                      have ztc : ¬ c.bp = wD.heap.size := fun e => g251.free (.inl e.symm)
                      have ztl := g251.lt
                      go_wp2_with fail
                      clear zt0 zt1 zt2 zt3 ztb ztc ztl
                      have HChc252 : Hid (pRun n (.jump (lv + 1) 12 (hd R).pos true) R.tail ≠ .out) := fun e => HN.out (by simp [stmtB, exprS, Res.bind, fail, ok1, need, name, h200, hk5, hq6n, hq16, hq31, hq58, hq72, hq112, hq171, hq206, hq220, hq247, e])
                      refine (ih.jump 12 (hd R).pos true _ _ _ _ _ m249.ps m249.rem (m249.lv HLD.out) hleD HChc252.out).mono ?_
                      rintro e w253 hpost
                      rcases hc252 : pRun n (.jump (lv + 1) 12 (hd R).pos true) R.tail with ⟨tshc252, Rhc252⟩ | ⟨en, p⟩ | _
                      rotate_left
                      · rw [hc252] at hpost
                        have hb2 := Box.thrown (r := stmtB (pRun n) lv R) u250 (hf.trans m249.fr) hpost (by simp [stmtB, exprS, Res.bind, fail, ok1, need, name, h200, hk5, hq6n, hq16, hq31, hq58, hq72, hq112, hq171, hq206, hq220, hq247, hc252])
                        obtain ⟨rfl, _⟩ := hpost
                        exact Or.inr ⟨rfl, hb2⟩
                      · exact absurd hc252 HChc252.out
                      rw [hc252] at hpost
                      obtain ⟨shc252, khc252, thc252, rfl, rfl, mm⟩ := hpost
                      have m254 := m249.call mm
                      have u250' := u250.fr mm.fr
                      have g251' := g251.fr mm.fr
                      have u255 := u250'
                      clear u250' u250
                      have g256 := g251'
                      clear g251' g251
                      have Hhc252 := hidden hc252
                      clear mm m249 hc252 HChc252
                      have zt0 := g256.c0
                      have zt1 := g256.c1
                      have zt2 := g256.c2
                      have zt3 := g256.c3
                      have ztb : ¬ wD.heap.size = c.bp := fun e => g256.free (.inl e)
                      have ztc : ¬ c.bp = wD.heap.size := fun e => g256.free (.inl e.symm)
                      have ztl := g256.lt
                      go_wp2_with fail
                      clear zt0 zt1 zt2 zt3 ztb ztc ztl
                      (try simp only [Exit.inBlock, Exit.then])
                      change Leaves _ _ _ _ [_] FrameMode.returning _
                      refine leaves_cons (f := 124) (args := #[.pointer (some ⟨w.heap.size, 0, none⟩)]) (by simp) (by simp [go_sem]) ?_
                      refine (up_deferred m254.ps w.heap.size u255.cell (lv := lv) (by rw [m254.lv HLD.out]; push_cast; rfl) (by omega) _).mono ?_
                      rintro e u' we ⟨rfl, rfl, hp, hfe⟩
                      rw [← HL.out] at hp hfe
                      exact ⟨_, results_tmp rfl _ _ _, PostN.fin (Mid.down hf m254 hp hfe) (by simp [stmtB, exprS, Res.bind, fail, ok1, need, name, h200, hk5, hq6n, hq16, hq31, hq58, hq72, hq112, hq171, hq206, hq220, hq247, Hhc252.out])⟩
                    · refine (take_no m244.ps m244.rem [116, 104, 114, 111, 119] (by simpa using hq247)).mono ?_
                      rintro e w257 ⟨rfl, hb⟩
                      have u245' := u245.below hb
                      have g246' := g246.below hb
                      have m258 := m244.below hb
                      clear m244
                      have u259 := u245'
                      clear u245' u245
                      have g260 := g246'
                      clear g246' g246
                      clear hb
                      have zt0 := g260.c0
                      have zt1 := g260.c1
                      have zt2 := g260.c2
                      have zt3 := g260.c3
                      have ztb : ¬ wD.heap.size = c.bp := fun e => g260.free (.inl e)
                      have ztc : ¬ c.bp = wD.heap.size := fun e => g260.free (.inl e.symm)
                      have ztl := g260.lt
                      go_wp2_with fail
                      clear zt0 zt1 zt2 zt3 ztb ztc ztl
                      by_cases hq261 : isTok (hd R) [98, 114, 101, 97, 107] = true
                      · refine (take_yes m258.ps m258.rem [98, 114, 101, 97, 107] hq261).mono ?_
                        rintro e w262 ⟨rfl, hp, hf⟩
                        have m263 := m258.next hp hf
                        have u259' := u259.fr hf
                        have g260' := g260.fr hf
                        have u264 := u259'
                        clear u259' u259
                        have g265 := g260'
                        clear g260' g260
                        clear hp hf m258
                        have zt0 := g265.c0
                        have zt1 := g265.c1
                        have zt2 := g265.c2
                        have zt3 := g265.c3
                        have ztb : ¬ wD.heap.size = c.bp := fun e => g265.free (.inl e)
                        have ztc : ¬ c.bp = wD.heap.size := fun e => g265.free (.inl e.symm)
                        have ztl := g265.lt
                        go_wp2_with fail
                        clear zt0 zt1 zt2 zt3 ztb ztc ztl
                        have HChc266 : Hid (pRun n (.jump (lv + 1) 13 (hd R).pos false) R.tail ≠ .out) := fun e => HN.out (by simp [stmtB, exprS, Res.bind, fail, ok1, need, name, h200, hk5, hq6n, hq16, hq31, hq58, hq72, hq112, hq171, hq206, hq220, hq247, hq261, e])
                        refine (ih.jump 13 (hd R).pos false _ _ _ _ _ m263.ps m263.rem (m263.lv HLD.out) hleD HChc266.out).mono ?_
                        rintro e w267 hpost
                        rcases hc266 : pRun n (.jump (lv + 1) 13 (hd R).pos false) R.tail with ⟨tshc266, Rhc266⟩ | ⟨en, p⟩ | _
                        rotate_left
                        · rw [hc266] at hpost
                          have hb2 := Box.thrown (r := stmtB (pRun n) lv R) u264 (hf.trans m263.fr) hpost (by simp [stmtB, exprS, Res.bind, fail, ok1, need, name, h200, hk5, hq6n, hq16, hq31, hq58, hq72, hq112, hq171, hq206, hq220, hq247, hq261, hc266])
                          obtain ⟨rfl, _⟩ := hpost
                          exact Or.inr ⟨rfl, hb2⟩
                        · exact absurd hc266 HChc266.out
                        rw [hc266] at hpost
                        obtain ⟨shc266, khc266, thc266, rfl, rfl, mm⟩ := hpost
                        have m268 := m263.call mm
                        have u264' := u264.fr mm.fr
                        have g265' := g265.fr mm.fr
                        have u269 := u264'
                        clear u264' u264
                        have g270 := g265'
                        clear g265' g265
                        have Hhc266 := hidden hc266
                        clear mm m263 hc266 HChc266
                        have zt0 := g270.c0
                        have zt1 := g270.c1
                        have zt2 := g270.c2
                        have zt3 := g270.c3
                        have ztb : ¬ wD.heap.size = c.bp := fun e => g270.free (.inl e)
                        have ztc : ¬ c.bp = wD.heap.size := fun e => g270.free (.inl e.symm)
                        have ztl := g270.lt
                        go_wp2_with fail
                        clear zt0 zt1 zt2 zt3 ztb ztc ztl
                        (try simp only [Exit.inBlock, Exit.then])
                        change Leaves _ _ _ _ [_] FrameMode.returning _
                        refine leaves_cons (f := 124) (args := #[.pointer (some ⟨w.heap.size, 0, none⟩)]) (by simp) (by simp [go_sem]) ?_
                        refine (up_deferred m268.ps w.heap.size u269.cell (lv := lv) (by rw [m268.lv HLD.out]; push_cast; rfl) (by omega) _).mono ?_
                        rintro e u' we ⟨rfl, rfl, hp, hfe⟩
                        rw [← HL.out] at hp hfe
                        exact ⟨_, results_tmp rfl _ _ _, PostN.fin (Mid.down hf m268 hp hfe) (by simp [stmtB, exprS, Res.bind, fail, ok1, need, name, h200, hk5, hq6n, hq16, hq31, hq58, hq72, hq112, hq171, hq206, hq220, hq247, hq261, Hhc266.out])⟩
                      · refine (take_no m258.ps m258.rem [98, 114, 101, 97, 107] (by simpa using hq261)).mono ?_
                        rintro e w271 ⟨rfl, hb⟩
                        have u259' := u259.below hb
                        have g260' := g260.below hb
                        have m272 := m258.below hb
                        clear m258
                        have u273 := u259'
                        clear u259' u259
                        have g274 := g260'
                        clear g260' g260
                        clear hb
                        have zt0 := g274.c0
                        have zt1 := g274.c1
                        have zt2 := g274.c2
                        have zt3 := g274.c3
                        have ztb : ¬ wD.heap.size = c.bp := fun e => g274.free (.inl e)
                        have ztc : ¬ c.bp = wD.heap.size := fun e => g274.free (.inl e.symm)
                        have ztl := g274.lt
                        go_wp2_with fail
                        clear zt0 zt1 zt2 zt3 ztb ztc ztl
                        by_cases hq275 : isTok (hd R) [99, 111, 110, 116, 105, 110, 117, 101] = true
                        · refine (take_yes m272.ps m272.rem [99, 111, 110, 116, 105, 110, 117, 101] hq275).mono ?_
                          rintro e w276 ⟨rfl, hp, hf⟩
                          have m277 := m272.next hp hf
                          have u273' := u273.fr hf
                          have g274' := g274.fr hf
                          have u278 := u273'
                          clear u273' u273
                          have g279 := g274'
                          clear g274' g274
                          clear hp hf m272
                          have zt0 := g279.c0
                          have zt1 := g279.c1
                          have zt2 := g279.c2
                          have zt3 := g279.c3
                          have ztb : ¬ wD.heap.size = c.bp := fun e => g279.free (.inl e)
                          have ztc : ¬ c.bp = wD.heap.size := fun e => g279.free (.inl e.symm)
                          have ztl := g279.lt
                          go_wp2_with fail
                          clear zt0 zt1 zt2 zt3 ztb ztc ztl
                          have HChc280 : Hid (pRun n (.jump (lv + 1) 14 (hd R).pos false) R.tail ≠ .out) := fun e => HN.out (by simp [stmtB, exprS, Res.bind, fail, ok1, need, name, h200, hk5, hq6n, hq16, hq31, hq58, hq72, hq112, hq171, hq206, hq220, hq247, hq261, hq275, e])
                          refine (ih.jump 14 (hd R).pos false _ _ _ _ _ m277.ps m277.rem (m277.lv HLD.out) hleD HChc280.out).mono ?_
                          rintro e w281 hpost
                          rcases hc280 : pRun n (.jump (lv + 1) 14 (hd R).pos false) R.tail with ⟨tshc280, Rhc280⟩ | ⟨en, p⟩ | _
                          rotate_left
                          · rw [hc280] at hpost
                            have hb2 := Box.thrown (r := stmtB (pRun n) lv R) u278 (hf.trans m277.fr) hpost (by simp [stmtB, exprS, Res.bind, fail, ok1, need, name, h200, hk5, hq6n, hq16, hq31, hq58, hq72, hq112, hq171, hq206, hq220, hq247, hq261, hq275, hc280])
                            obtain ⟨rfl, _⟩ := hpost
                            exact Or.inr ⟨rfl, hb2⟩
                          · exact absurd hc280 HChc280.out
                          rw [hc280] at hpost
                          obtain ⟨shc280, khc280, thc280, rfl, rfl, mm⟩ := hpost
                          have m282 := m277.call mm
                          have u278' := u278.fr mm.fr
                          have g279' := g279.fr mm.fr
                          have u283 := u278'
                          clear u278' u278
                          have g284 := g279'
                          clear g279' g279
                          have Hhc280 := hidden hc280
                          clear mm m277 hc280 HChc280
                          have zt0 := g284.c0
                          have zt1 := g284.c1
                          have zt2 := g284.c2
                          have zt3 := g284.c3
                          have ztb : ¬ wD.heap.size = c.bp := fun e => g284.free (.inl e)
                          have ztc : ¬ c.bp = wD.heap.size := fun e => g284.free (.inl e.symm)
                          have ztl := g284.lt
                          go_wp2_with fail
                          clear zt0 zt1 zt2 zt3 ztb ztc ztl
                          (try simp only [Exit.inBlock, Exit.then])
                          change Leaves _ _ _ _ [_] FrameMode.returning _
                          refine leaves_cons (f := 124) (args := #[.pointer (some ⟨w.heap.size, 0, none⟩)]) (by simp) (by simp [go_sem]) ?_
                          refine (up_deferred m282.ps w.heap.size u283.cell (lv := lv) (by rw [m282.lv HLD.out]; push_cast; rfl) (by omega) _).mono ?_
                          rintro e u' we ⟨rfl, rfl, hp, hfe⟩
                          rw [← HL.out] at hp hfe
                          exact ⟨_, results_tmp rfl _ _ _, PostN.fin (Mid.down hf m282 hp hfe) (by simp [stmtB, exprS, Res.bind, fail, ok1, need, name, h200, hk5, hq6n, hq16, hq31, hq58, hq72, hq112, hq171, hq206, hq220, hq247, hq261, hq275, Hhc280.out])⟩
                        · refine (take_no m272.ps m272.rem [99, 111, 110, 116, 105, 110, 117, 101] (by simpa using hq275)).mono ?_
                          rintro e w285 ⟨rfl, hb⟩
                          have u273' := u273.below hb
                          have g274' := g274.below hb
                          have m286 := m272.below hb
                          clear m272
                          have u287 := u273'
                          clear u273' u273
                          have g288 := g274'
                          clear g274' g274
                          clear hb
                          have zt0 := g288.c0
                          have zt1 := g288.c1
                          have zt2 := g288.c2
                          have zt3 := g288.c3
                          have ztb : ¬ wD.heap.size = c.bp := fun e => g288.free (.inl e)
                          have ztc : ¬ c.bp = wD.heap.size := fun e => g288.free (.inl e.symm)
                          have ztl := g288.lt
                          go_wp2_with fail
                          clear zt0 zt1 zt2 zt3 ztb ztc ztl
                          by_cases hq289 : isTok (hd R) [116, 114, 121] = true
                          · refine (take_yes m286.ps m286.rem [116, 114, 121] hq289).mono ?_
                            rintro e w290 ⟨rfl, hp, hf⟩
                            have m291 := m286.next hp hf
                            have u287' := u287.fr hf
                            have g288' := g288.fr hf
                            have u292 := u287'
                            clear u287' u287
                            have g293 := g288'
                            clear g288' g288
                            clear hp hf m286
                            have zt0 := g293.c0
                            have zt1 := g293.c1
                            have zt2 := g293.c2
                            have zt3 := g293.c3
                            have ztb : ¬ wD.heap.size = c.bp := fun e => g293.free (.inl e)
                            have ztc : ¬ c.bp = wD.heap.size := fun e => g293.free (.inl e.symm)
                            have ztl := g293.lt
                            go_wp2_with fail
                            clear zt0 zt1 zt2 zt3 ztb ztc ztl
                            have HChc294 : Hid (pRun n (.try_ (lv + 1) (hd R).pos) R.tail ≠ .out) := fun e => HN.out (by simp [stmtB, exprS, Res.bind, fail, ok1, need, name, h200, hk5, hq6n, hq16, hq31, hq58, hq72, hq112, hq171, hq206, hq220, hq247, hq261, hq275, hq289, e])
                            refine (ih.try_ (hd R).pos _ _ _ _ _ m291.ps m291.rem (m291.lv HLD.out) hleD HChc294.out).mono ?_
                            rintro e w295 hpost
                            rcases hc294 : pRun n (.try_ (lv + 1) (hd R).pos) R.tail with ⟨tshc294, Rhc294⟩ | ⟨en, p⟩ | _
                            rotate_left
                            · rw [hc294] at hpost
                              have hb2 := Box.thrown (r := stmtB (pRun n) lv R) u292 (hf.trans m291.fr) hpost (by simp [stmtB, exprS, Res.bind, fail, ok1, need, name, h200, hk5, hq6n, hq16, hq31, hq58, hq72, hq112, hq171, hq206, hq220, hq247, hq261, hq275, hq289, hc294])
                              obtain ⟨rfl, _⟩ := hpost
                              exact Or.inr ⟨rfl, hb2⟩
                            · exact absurd hc294 HChc294.out
                            rw [hc294] at hpost
                            obtain ⟨shc294, khc294, thc294, rfl, rfl, mm⟩ := hpost
                            have m296 := m291.call mm
                            have u292' := u292.fr mm.fr
                            have g293' := g293.fr mm.fr
                            have u297 := u292'
                            clear u292' u292
                            have g298 := g293'
                            clear g293' g293
                            have Hhc294 := hidden hc294
                            clear mm m291 hc294 HChc294
                            have zt0 := g298.c0
                            have zt1 := g298.c1
                            have zt2 := g298.c2
                            have zt3 := g298.c3
                            have ztb : ¬ wD.heap.size = c.bp := fun e => g298.free (.inl e)
                            have ztc : ¬ c.bp = wD.heap.size := fun e => g298.free (.inl e.symm)
                            have ztl := g298.lt
                            go_wp2_with fail
                            clear zt0 zt1 zt2 zt3 ztb ztc ztl
                            (try simp only [Exit.inBlock, Exit.then])
                            change Leaves _ _ _ _ [_] FrameMode.returning _
                            refine leaves_cons (f := 124) (args := #[.pointer (some ⟨w.heap.size, 0, none⟩)]) (by simp) (by simp [go_sem]) ?_
                            refine (up_deferred m296.ps w.heap.size u297.cell (lv := lv) (by rw [m296.lv HLD.out]; push_cast; rfl) (by omega) _).mono ?_
                            rintro e u' we ⟨rfl, rfl, hp, hfe⟩
                            rw [← HL.out] at hp hfe
                            exact ⟨_, results_tmp rfl _ _ _, PostN.fin (Mid.down hf m296 hp hfe) (by simp [stmtB, exprS, Res.bind, fail, ok1, need, name, h200, hk5, hq6n, hq16, hq31, hq58, hq72, hq112, hq171, hq206, hq220, hq247, hq261, hq275, hq289, Hhc294.out])⟩
                          · refine (take_no m286.ps m286.rem [116, 114, 121] (by simpa using hq289)).mono ?_
                            rintro e w299 ⟨rfl, hb⟩
                            have u287' := u287.below hb
                            have g288' := g288.below hb
                            have m300 := m286.below hb
                            clear m286
                            have u301 := u287'
                            clear u287' u287
                            have g302 := g288'
                            clear g288' g288
                            clear hb
                            have zt0 := g302.c0
                            have zt1 := g302.c1
                            have zt2 := g302.c2
                            have zt3 := g302.c3
                            have ztb : ¬ wD.heap.size = c.bp := fun e => g302.free (.inl e)
                            have ztc : ¬ c.bp = wD.heap.size := fun e => g302.free (.inl e.symm)
                            have ztl := g302.lt
                            go_wp2_with fail
                            clear zt0 zt1 zt2 zt3 ztb ztc ztl
                            have HChc303 : Hid (pRun n (.assign (lv + 1)) R ≠ .out) := fun e => HN.out (by simp [stmtB, exprS, Res.bind, fail, ok1, need, name, h200, hk5, hq6n, hq16, hq31, hq58, hq72, hq112, hq171, hq206, hq220, hq247, hq261, hq275, hq289, e])
                            refine (ih.assign _ _ _ _ _ m300.ps m300.rem (m300.lv HLD.out) hleD HChc303.out).mono ?_
                            rintro e w304 hpost
                            rcases hc303 : pRun n (.assign (lv + 1)) R with ⟨tshc303, Rhc303⟩ | ⟨en, p⟩ | _
                            rotate_left
                            · rw [hc303] at hpost
                              have hb2 := Box.thrown (r := stmtB (pRun n) lv R) u301 (hf.trans m300.fr) hpost (by simp [stmtB, exprS, Res.bind, fail, ok1, need, name, h200, hk5, hq6n, hq16, hq31, hq58, hq72, hq112, hq171, hq206, hq220, hq247, hq261, hq275, hq289, hc303])
                              obtain ⟨rfl, _⟩ := hpost
                              exact Or.inr ⟨rfl, hb2⟩
                            · exact absurd hc303 HChc303.out
                            rw [hc303] at hpost
                            obtain ⟨shc303, khc303, thc303, rfl, rfl, mm⟩ := hpost
                            have m305 := m300.call mm
                            have u301' := u301.fr mm.fr
                            have g302' := g302.fr mm.fr
                            have u306 := u301'
                            clear u301' u301
                            have g307 := g302'
                            clear g302' g302
                            have Hhc303 := hidden hc303
                            clear mm m300 hc303 HChc303
                            have zt0 := g307.c0
                            have zt1 := g307.c1
                            have zt2 := g307.c2
                            have zt3 := g307.c3
                            have ztb : ¬ wD.heap.size = c.bp := fun e => g307.free (.inl e)
                            have ztc : ¬ c.bp = wD.heap.size := fun e => g307.free (.inl e.symm)
                            have ztl := g307.lt
                            go_wp2_with fail
                            clear zt0 zt1 zt2 zt3 ztb ztc ztl
                            by_cases hx308 : isTok (hd Rhc303) [59] = true
                            rotate_left
                            · refine (need_no m305.ps m305.rem [59] (by simpa using hx308)).mono ?_
                              rintro e wz hbad
                              have hb2 := Box.thrown (r := stmtB (pRun n) lv R) u306 (hf.trans m305.fr) hbad (by simp [stmtB, exprS, Res.bind, fail, ok1, need, name, h200, hk5, hq6n, hq16, hq31, hq58, hq72, hq112, hq171, hq206, hq220, hq247, hq261, hq275, hq289, Hhc303.out, hx308])
                              obtain ⟨rfl, _⟩ := hbad
                              exact Or.inr ⟨rfl, hb2⟩
                            refine (need_yes m305.ps m305.rem [59] hx308).mono ?_
                            rintro e w309 ⟨rfl, hp, hf⟩
                            have m310 := m305.next hp hf
                            have u306' := u306.fr hf
                            have g307' := g307.fr hf
                            have u311 := u306'
                            clear u306' u306
                            have g312 := g307'
                            clear g307' g307
                            clear hp hf m305
                            have zt0 := g312.c0
                            have zt1 := g312.c1
                            have zt2 := g312.c2
                            have zt3 := g312.c3
                            have ztb : ¬ wD.heap.size = c.bp := fun e => g312.free (.inl e)
                            have ztc : ¬ c.bp = wD.heap.size := fun e => g312.free (.inl e.symm)
                            have ztl := g312.lt
                            go_wp2_with fail
                            clear zt0 zt1 zt2 zt3 ztb ztc ztl
                            have nb314 : (Value.slice (some ⟨w309.heap.size, 0, none⟩) 1 1).ownBlock ≠ some w.heap.size := by have := u311.lt; simp [Value.ownBlock]; omega
                            have nb315 : (Value.slice (some ⟨w309.heap.size, 0, none⟩) 1 1).ownBlock ≠ some wD.heap.size := by have := g312.lt; simp [Value.ownBlock]; omega
                            have l313 : Lst c wD (w309.alloc (.cells #[.int .i64 khc303] 3)) _ (.slice (some ⟨w309.heap.size, 0, none⟩) 1 1) [khc303] := Lst.made m310 [khc303] (by simp)
                            have u311' := u311.below ((Below.refl _ _).alloc (Nat.le_refl _) (.cells #[.int .i64 khc303] 3))
                            have g312' := g312.below ((Below.refl _ _).alloc (Nat.le_refl _) (.cells #[.int .i64 khc303] 3))
                            have m316 := m310.below ((Below.refl _ _).alloc (Nat.le_refl _) (.cells #[.int .i64 khc303] 3))
                            clear m310
                            have u317 := u311'
                            clear u311' u311
                            have g318 := g312'
                            clear g312' g312
                            generalize w309.alloc (.cells #[.int .i64 khc303] 3) = w319 at m316 l313 u317 g318 ⊢
                            refine (node_mid m316 l313 hroomD 6 (hd R).pos []).mono ?_
                            rintro e w320 ⟨s322, k321, rfl, m323, hp⟩
                            have u317' := u317.kept hp nb314
                            have g318' := g318.kept hp nb315
                            clear hp m316
                            have u324 := u317'
                            clear u317' u317
                            have g325 := g318'
                            clear g318' g318
                            have zt0 := g325.c0
                            have zt1 := g325.c1
                            have zt2 := g325.c2
                            have zt3 := g325.c3
                            have ztb : ¬ wD.heap.size = c.bp := fun e => g325.free (.inl e)
                            have ztc : ¬ c.bp = wD.heap.size := fun e => g325.free (.inl e.symm)
                            have ztl := g325.lt
                            go_wp2_with fail
                            clear zt0 zt1 zt2 zt3 ztb ztc ztl
                            (try simp only [Exit.inBlock, Exit.then])
                            change Leaves _ _ _ _ [_] FrameMode.returning _
                            refine leaves_cons (f := 124) (args := #[.pointer (some ⟨w.heap.size, 0, none⟩)]) (by simp) (by simp [go_sem]) ?_
                            refine (up_deferred m323.ps w.heap.size u324.cell (lv := lv) (by rw [m323.lv HLD.out]; push_cast; rfl) (by omega) _).mono ?_
                            rintro e u' we ⟨rfl, rfl, hp, hfe⟩
                            rw [← HL.out] at hp hfe
                            exact ⟨_, results_tmp rfl _ _ _, PostN.fin (Mid.down hf m323 hp hfe) (by simp [stmtB, exprS, Res.bind, fail, ok1, need, name, h200, hk5, hq6n, hq16, hq31, hq58, hq72, hq112, hq171, hq206, hq220, hq247, hq261, hq275, hq289, Hhc303.out, hx308])⟩
  · have hk5n : ((hd R).kind == 2) = false := by simpa using hk5
    have hk5a : (((hd R).kind : Int) == 2) = false := by rw [← hk5n]; exact beqK _ 2
    have hk5b : ¬ ((hd R).kind : Int) = 2 := by simp at hk5; omega
    clear hk5
    have hk5c : (((hd R).kind : Int) != 2) = true := by simp only [bne, hk5a]; rfl
    have zt0 := g1.c0
    have zt1 := g1.c1
    have zt2 := g1.c2
    have zt3 := g1.c3
    have ztb : ¬ wD.heap.size = c.bp := fun e => g1.free (.inl e)
    have ztc : ¬ c.bp = wD.heap.size := fun e => g1.free (.inl e.symm)
    have ztl := g1.lt
    go_wp2_with fail
    clear zt0 zt1 zt2 zt3 ztb ztc ztl
    refine (is_calls m2.ps m2.rem [123]).mono ?_
    rintro e w327 ⟨rfl, hb⟩
    have u4' := u4.below hb
    have g1' := g1.below hb
    have m328 := m2.below hb
    clear m2
    have u329 := u4'
    clear u4' u4
    have g330 := g1'
    clear g1' g1
    clear hb
    by_cases hq326 : isTok (hd R) [123] = true
    · skip
      have zt0 := g330.c0
      have zt1 := g330.c1
      have zt2 := g330.c2
      have zt3 := g330.c3
      have ztb : ¬ wD.heap.size = c.bp := fun e => g330.free (.inl e)
      have ztc : ¬ c.bp = wD.heap.size := fun e => g330.free (.inl e.symm)
      have ztl := g330.lt
      go_wp2_with fail
      clear zt0 zt1 zt2 zt3 ztb ztc ztl
      have HChc331 : Hid (pRun n (.block (lv + 1)) R ≠ .out) := fun e => HN.out (by simp [stmtB, exprS, Res.bind, fail, ok1, need, name, h200, hk5n, hq326, e])
      refine (ih.block _ _ _ _ _ m328.ps m328.rem (m328.lv HLD.out) hleD HChc331.out).mono ?_
      rintro e w332 hpost
      rcases hc331 : pRun n (.block (lv + 1)) R with ⟨tshc331, Rhc331⟩ | ⟨en, p⟩ | _
      rotate_left
      · rw [hc331] at hpost
        have hb2 := Box.thrown (r := stmtB (pRun n) lv R) u329 (hf.trans m328.fr) hpost (by simp [stmtB, exprS, Res.bind, fail, ok1, need, name, h200, hk5n, hq326, hc331])
        obtain ⟨rfl, _⟩ := hpost
        exact Or.inr ⟨rfl, hb2⟩
      · exact absurd hc331 HChc331.out
      rw [hc331] at hpost
      obtain ⟨shc331, khc331, thc331, rfl, rfl, mm⟩ := hpost
      have m333 := m328.call mm
      have u329' := u329.fr mm.fr
      have g330' := g330.fr mm.fr
      have u334 := u329'
      clear u329' u329
      have g335 := g330'
      clear g330' g330
      have Hhc331 := hidden hc331
      clear mm m328 hc331 HChc331
      have zt0 := g335.c0
      have zt1 := g335.c1
      have zt2 := g335.c2
      have zt3 := g335.c3
      have ztb : ¬ wD.heap.size = c.bp := fun e => g335.free (.inl e)
      have ztc : ¬ c.bp = wD.heap.size := fun e => g335.free (.inl e.symm)
      have ztl := g335.lt
      go_wp2_with fail
      clear zt0 zt1 zt2 zt3 ztb ztc ztl
      (try simp only [Exit.inBlock, Exit.then])
      change Leaves _ _ _ _ [_] FrameMode.returning _
      refine leaves_cons (f := 124) (args := #[.pointer (some ⟨w.heap.size, 0, none⟩)]) (by simp) (by simp [go_sem]) ?_
      refine (up_deferred m333.ps w.heap.size u334.cell (lv := lv) (by rw [m333.lv HLD.out]; push_cast; rfl) (by omega) _).mono ?_
      rintro e u' we ⟨rfl, rfl, hp, hfe⟩
      rw [← HL.out] at hp hfe
      exact ⟨_, results_tmp rfl _ _ _, PostN.fin (Mid.down hf m333 hp hfe) (by simp [stmtB, exprS, Res.bind, fail, ok1, need, name, h200, hk5n, hq326, Hhc331.out])⟩
    have hq326n : isTok (hd R) [123] = false := by simpa using hq326
    clear hq326
    have zt0 := g330.c0
    have zt1 := g330.c1
    have zt2 := g330.c2
    have zt3 := g330.c3
    have ztb : ¬ wD.heap.size = c.bp := fun e => g330.free (.inl e)
    have ztc : ¬ c.bp = wD.heap.size := fun e => g330.free (.inl e.symm)
    have ztl := g330.lt
    go_wp2_with fail
    clear zt0 zt1 zt2 zt3 ztb ztc ztl
    by_cases hq336 : isTok (hd R) [59] = true
    · refine (take_yes m328.ps m328.rem [59] hq336).mono ?_
      rintro e w337 ⟨rfl, hp, hf⟩
      have m338 := m328.next hp hf
      have u329' := u329.fr hf
      have g330' := g330.fr hf
      have u339 := u329'
      clear u329' u329
      have g340 := g330'
      clear g330' g330
      clear hp hf m328
      have zt0 := g340.c0
      have zt1 := g340.c1
      have zt2 := g340.c2
      have zt3 := g340.c3
      have ztb : ¬ wD.heap.size = c.bp := fun e => g340.free (.inl e)
      have ztc : ¬ c.bp = wD.heap.size := fun e => g340.free (.inl e.symm)
      have ztl := g340.lt
      go_wp2_with fail
      clear zt0 zt1 zt2 zt3 ztb ztc ztl
      refine (node_mid m338 Lst.nil hroomD 15 (hd R).pos []).mono ?_
      rintro e w341 ⟨s343, k342, rfl, m344, hp⟩
      have u339' := u339.kept hp (by simp [Value.ownBlock])
      have g340' := g340.kept hp (by simp [Value.ownBlock])
      clear hp m338
      have u345 := u339'
      clear u339' u339
      have g346 := g340'
      clear g340' g340
      have zt0 := g346.c0
      have zt1 := g346.c1
      have zt2 := g346.c2
      have zt3 := g346.c3
      have ztb : ¬ wD.heap.size = c.bp := fun e => g346.free (.inl e)
      have ztc : ¬ c.bp = wD.heap.size := fun e => g346.free (.inl e.symm)
      have ztl := g346.lt
      go_wp2_with fail
      clear zt0 zt1 zt2 zt3 ztb ztc ztl
      (try simp only [Exit.inBlock, Exit.then])
      change Leaves _ _ _ _ [_] FrameMode.returning _
      refine leaves_cons (f := 124) (args := #[.pointer (some ⟨w.heap.size, 0, none⟩)]) (by simp) (by simp [go_sem]) ?_
      refine (up_deferred m344.ps w.heap.size u345.cell (lv := lv) (by rw [m344.lv HLD.out]; push_cast; rfl) (by omega) _).mono ?_
      rintro e u' we ⟨rfl, rfl, hp, hfe⟩
      rw [← HL.out] at hp hfe
      exact ⟨_, results_tmp rfl _ _ _, PostN.fin (Mid.down hf m344 hp hfe) (by simp [stmtB, exprS, Res.bind, fail, ok1, need, name, h200, hk5n, hq326n, hq336])⟩
    · refine (take_no m328.ps m328.rem [59] (by simpa using hq336)).mono ?_
      rintro e w347 ⟨rfl, hb⟩
      have u329' := u329.below hb
      have g330' := g330.below hb
      have m348 := m328.below hb
      clear m328
      have u349 := u329'
      clear u329' u329
      have g350 := g330'
      clear g330' g330
      clear hb
      have zt0 := g350.c0
      have zt1 := g350.c1
      have zt2 := g350.c2
      have zt3 := g350.c3
      have ztb : ¬ wD.heap.size = c.bp := fun e => g350.free (.inl e)
      have ztc : ¬ c.bp = wD.heap.size := fun e => g350.free (.inl e.symm)
      have ztl := g350.lt
      go_wp2_with fail
      clear zt0 zt1 zt2 zt3 ztb ztc ztl
      have HChc351 : Hid (pRun n (.assign (lv + 1)) R ≠ .out) := fun e => HN.out (by simp [stmtB, exprS, Res.bind, fail, ok1, need, name, h200, hk5n, hq326n, hq336, e])
      refine (ih.assign _ _ _ _ _ m348.ps m348.rem (m348.lv HLD.out) hleD HChc351.out).mono ?_
      rintro e w352 hpost
      rcases hc351 : pRun n (.assign (lv + 1)) R with ⟨tshc351, Rhc351⟩ | ⟨en, p⟩ | _
      rotate_left
      · rw [hc351] at hpost
        have hb2 := Box.thrown (r := stmtB (pRun n) lv R) u349 (hf.trans m348.fr) hpost (by simp [stmtB, exprS, Res.bind, fail, ok1, need, name, h200, hk5n, hq326n, hq336, hc351])
        obtain ⟨rfl, _⟩ := hpost
        exact Or.inr ⟨rfl, hb2⟩
      · exact absurd hc351 HChc351.out
      rw [hc351] at hpost
      obtain ⟨shc351, khc351, thc351, rfl, rfl, mm⟩ := hpost
      have m353 := m348.call mm
      have u349' := u349.fr mm.fr
      have g350' := g350.fr mm.fr
      have u354 := u349'
      clear u349' u349
      have g355 := g350'
      clear g350' g350
      have Hhc351 := hidden hc351
      clear mm m348 hc351 HChc351
      have zt0 := g355.c0
      have zt1 := g355.c1
      have zt2 := g355.c2
      have zt3 := g355.c3
      have ztb : ¬ wD.heap.size = c.bp := fun e => g355.free (.inl e)
      have ztc : ¬ c.bp = wD.heap.size := fun e => g355.free (.inl e.symm)
      have ztl := g355.lt
      go_wp2_with fail
      clear zt0 zt1 zt2 zt3 ztb ztc ztl
      by_cases hx356 : isTok (hd Rhc351) [59] = true
      rotate_left
      · refine (need_no m353.ps m353.rem [59] (by simpa using hx356)).mono ?_
        rintro e wz hbad
        have hb2 := Box.thrown (r := stmtB (pRun n) lv R) u354 (hf.trans m353.fr) hbad (by simp [stmtB, exprS, Res.bind, fail, ok1, need, name, h200, hk5n, hq326n, hq336, Hhc351.out, hx356])
        obtain ⟨rfl, _⟩ := hbad
        exact Or.inr ⟨rfl, hb2⟩
      refine (need_yes m353.ps m353.rem [59] hx356).mono ?_
      rintro e w357 ⟨rfl, hp, hf⟩
      have m358 := m353.next hp hf
      have u354' := u354.fr hf
      have g355' := g355.fr hf
      have u359 := u354'
      clear u354' u354
      have g360 := g355'
      clear g355' g355
      clear hp hf m353
      have zt0 := g360.c0
      have zt1 := g360.c1
      have zt2 := g360.c2
      have zt3 := g360.c3
      have ztb : ¬ wD.heap.size = c.bp := fun e => g360.free (.inl e)
      have ztc : ¬ c.bp = wD.heap.size := fun e => g360.free (.inl e.symm)
      have ztl := g360.lt
      go_wp2_with fail
      clear zt0 zt1 zt2 zt3 ztb ztc ztl
      have nb362 : (Value.slice (some ⟨w357.heap.size, 0, none⟩) 1 1).ownBlock ≠ some w.heap.size := by have := u359.lt; simp [Value.ownBlock]; omega
      have nb363 : (Value.slice (some ⟨w357.heap.size, 0, none⟩) 1 1).ownBlock ≠ some wD.heap.size := by have := g360.lt; simp [Value.ownBlock]; omega
      have l361 : Lst c wD (w357.alloc (.cells #[.int .i64 khc351] 3)) _ (.slice (some ⟨w357.heap.size, 0, none⟩) 1 1) [khc351] := Lst.made m358 [khc351] (by simp)
      have u359' := u359.below ((Below.refl _ _).alloc (Nat.le_refl _) (.cells #[.int .i64 khc351] 3))
      have g360' := g360.below ((Below.refl _ _).alloc (Nat.le_refl _) (.cells #[.int .i64 khc351] 3))
      have m364 := m358.below ((Below.refl _ _).alloc (Nat.le_refl _) (.cells #[.int .i64 khc351] 3))
      clear m358
      have u365 := u359'
      clear u359' u359
      have g366 := g360'
      clear g360' g360
      generalize w357.alloc (.cells #[.int .i64 khc351] 3) = w367 at m364 l361 u365 g366 ⊢
      refine (node_mid m364 l361 hroomD 6 (hd R).pos []).mono ?_
      rintro e w368 ⟨s370, k369, rfl, m371, hp⟩
      have u365' := u365.kept hp nb362
      have g366' := g366.kept hp nb363
      clear hp m364
      have u372 := u365'
      clear u365' u365
      have g373 := g366'
      clear g366' g366
      have zt0 := g373.c0
      have zt1 := g373.c1
      have zt2 := g373.c2
      have zt3 := g373.c3
      have ztb : ¬ wD.heap.size = c.bp := fun e => g373.free (.inl e)
      have ztc : ¬ c.bp = wD.heap.size := fun e => g373.free (.inl e.symm)
      have ztl := g373.lt
      go_wp2_with fail
      clear zt0 zt1 zt2 zt3 ztb ztc ztl
      (try simp only [Exit.inBlock, Exit.then])
      change Leaves _ _ _ _ [_] FrameMode.returning _
      refine leaves_cons (f := 124) (args := #[.pointer (some ⟨w.heap.size, 0, none⟩)]) (by simp) (by simp [go_sem]) ?_
      refine (up_deferred m371.ps w.heap.size u372.cell (lv := lv) (by rw [m371.lv HLD.out]; push_cast; rfl) (by omega) _).mono ?_
      rintro e u' we ⟨rfl, rfl, hp, hfe⟩
      rw [← HL.out] at hp hfe
      exact ⟨_, results_tmp rfl _ _ _, PostN.fin (Mid.down hf m371 hp hfe) (by simp [stmtB, exprS, Res.bind, fail, ok1, need, name, h200, hk5n, hq326n, hq336, Hhc351.out, hx356])⟩

end Go.Proofs.YtgdamcmfdhhheaaGreatDoor
