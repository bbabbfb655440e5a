/- lex.token at a digit and at a quote, walked. -/
import Derived.Test.YtgdamcmfdhhheaaGreatDoorML1
import Derived.Test.YtgdamcmfdhhheaaGreatDoorMA1
import Derived.WalkMore
import Derived.Deep.LoopGhost
import Derived.Deep.AppendLies
set_option linter.all false

namespace Go.Proofs.YtgdamcmfdhhheaaGreatDoor
open Go.RowKit Bf

theorem digits_list (b : UInt8) : ([48, 49, 50, 51, 52, 53, 54, 55, 56, 57] : List UInt8).contains b = isDigit b := by
  rw [Bool.eq_iff_iff, digit_iff]
  simp only [List.contains_iff_mem, List.mem_cons, List.not_mem_nil, or_false, ← UInt8.toNat_inj]
  simp
  omega

set_option maxRecDepth 100000 in
set_option maxHeartbeats 2000000 in
theorem token_digit (s : List UInt8) (h1 : 1 ≤ s.length) (h2 : s.length ≤ 65536) (w : World) (hg : Ground w) (b : UInt8) (hb : s.headD 0 = b) (hk : bKind b = 2) :
    Calls Tryz.prog 29 #[.string ⟨s.toArray⟩] w (PostTok w (tokN s)) := by
  have hi0 : 0 < (⟨s.toArray⟩ : ByteArray).size := by simp [ByteArray.size]; omega
  have hh : ∀ h, (⟨s.toArray⟩ : ByteArray)[0]'h = b := fun _ => by cases s with | nil => simp at h1 | cons c t => exact hb
  have hk0 : ((bKind b : Nat) : Int) = 2 := by rw [hk]; rfl
  have hkc : ∀ w, Calls Tryz.prog 46 #[.int .u8 (b.toNat : Nat)] w fun e w' => e = .returned (.int .i64 2) ∧ w' = w := fun w => by
    have := kind_calls b w
    rw [hk0] at this
    exact this
  have hnl := nameLen_le s
  have hn1 : 1 ≤ nameLen s := by
    cases s with
    | nil => simp at h1
    | cons c t => simp at hb; subst hb; rw [nameLen_cons]; simp [isNm, hk]
  have bl : ∀ o, Below w.heap.size w (w.alloc o) := fun o => (Below.refl _ _).alloc (Nat.le_refl _) o
  have hdl : (s.take (nameLen s)).length = nameLen s := by simp; omega
  have htr := fun o => Any.strings_Trim_laid Tryz.lays160 (by kernel_rfl) ⟨(s.take (nameLen s)).toArray⟩ ⟨#[48, 49, 50, 51, 52, 53, 54, 55, 56, 57]⟩ (w.alloc o) (by simp [ByteArray.size]; omega) (by decide) (ascii_of_all (by decide))
  have htd := drop_digit [48, 49, 50, 51, 52, 53, 54, 55, 56, 57] digits_list (s.take (nameLen s))
  have hr : tokN s = if (s.take (nameLen s)).all isDigit = true ∧ ¬ (b.toNat = 48 ∧ 1 < nameLen s) ∧ nameLen s ≤ 16 then
      if (foldN (s.take (nameLen s))).2 = true then .error 0
      else if mayN (floatOfInt .f64 ((foldN (s.take (nameLen s))).1 : Nat)) then .ok (⟨3, 0, [], floatOfInt .f64 ((foldN (s.take (nameLen s))).1 : Nat)⟩, nameLen s)
      else .error 0
    else .error 0 := by unfold tokN; rw [hb, if_neg (by omega), if_pos hk]
  rw [← bext_zero] at htr
  generalize tokN s = r at hr ⊢
  have HR := hidden hr
  clear hr
  by_cases had : (s.take (nameLen s)).all isDigit = true
  · have hrd := read_calls (s.take (nameLen s)) had (by omega) (by omega)
    rw [← bext_zero] at hrd
    have hte : Lib.trimS (s.take (nameLen s)) [48, 49, 50, 51, 52, 53, 54, 55, 56, 57] = [] := htd.2 had
    have htr2 : ∀ o, Calls Tryz.prog 49 #[.string ((⟨s.toArray⟩ : ByteArray).extract 0 (nameLen s)), .string ⟨#[48, 49, 50, 51, 52, 53, 54, 55, 56, 57]⟩] (w.alloc o) fun e w' => e = .returned (.string ⟨#[]⟩) ∧ Below (w.alloc o).heap.size (w.alloc o) w' := fun o => by
      have := htr o
      rw [show ((⟨s.toArray⟩ : ByteArray).extract 0 (nameLen s)).data.toList = s.take (nameLen s) by rw [bext_zero], show (⟨#[48, 49, 50, 51, 52, 53, 54, 55, 56, 57]⟩ : ByteArray).data.toList = [48, 49, 50, 51, 52, 53, 54, 55, 56, 57] from rfl, hte] at this
      exact this
    clear htr htd
    have HD := hidden hrd
    have HT := hidden htr2
    clear hrd htr2 hte
    go_enter Tryz.func29, Tryz.ntmps29
    go_wp2_with (first | (go_at_call 46; refine (hkc _).mono ?_; rintro e w' ⟨rfl, rfl⟩) | (go_at_call 47; refine (run_calls s h2 _).mono ?_; rintro e w' ⟨rfl, rfl⟩))
    refine (HT.out _).mono ?_
    rintro e w1 ⟨rfl, hb1⟩
    have hB1 : w1.heap[w.heap.size]? = some (.cells #[.int .u8 0, .int .i64 0, .string ⟨#[]⟩, .float .f64 0] 59 (0, 0)) := (hb1.block _ (by simp)).trans (heap_alloc_new w _)
    have hbw : Below w.heap.size w w1 := (bl _).trans ⟨hb1.os, hb1.tape, hb1.output, hb1.size, fun k hk => hb1.block k (by simp; omega)⟩
    have c0 : w1.cell? ⟨w.heap.size, 0, none⟩ = some (.int .u8 0) := by simp [World.cell?, hB1]
    have c1 : w1.cell? ⟨w.heap.size, 1, none⟩ = some (.int .i64 0) := by simp [World.cell?, hB1]
    have c2 : w1.cell? ⟨w.heap.size, 2, none⟩ = some (.string ⟨#[]⟩) := by simp [World.cell?, hB1]
    have c3 : w1.cell? ⟨w.heap.size, 3, none⟩ = some (.float .f64 0) := by simp [World.cell?, hB1]
    have fz : ∀ o, w1.frozen? ⟨w.heap.size, o, none⟩ = false := fun o => by simp [World.frozen?, hB1]
    have f0 := fz 0
    have f1 := fz 1
    have f2 := fz 2
    have f3 := fz 3
    by_cases hq : ¬ (b.toNat = 48 ∧ 1 < nameLen s) ∧ nameLen s ≤ 16
    case neg =>
      have hr0 : r = .error 0 := by rw [HR.out, if_neg (fun h => hq h.2)]
      clear HR
      subst hr0
      have hch : ∀ x y z u, Below w.heap.size w ((((w1.setCell ⟨w.heap.size, 0, none⟩ x).setCell ⟨w.heap.size, 1, none⟩ y).setCell ⟨w.heap.size, 2, none⟩ z).setCell ⟨w.heap.size, 3, none⟩ u) := fun x y z u =>
        (((hbw.setCell (p := ⟨w.heap.size, 0, none⟩) (Nat.le_refl _) _).setCell (p := ⟨w.heap.size, 1, none⟩) (Nat.le_refl _) _).setCell (p := ⟨w.heap.size, 2, none⟩) (Nat.le_refl _) _).setCell (p := ⟨w.heap.size, 3, none⟩) (Nat.le_refl _) _
      have e16 : ¬ (b.toNat = 48 ∧ 1 < nameLen s) → ((16 : Int) < (nameLen s : Int)) = True := fun h => by
        have : ¬ nameLen s ≤ 16 := fun h2 => hq ⟨h, h2⟩
        simp; omega
      by_cases h48 : b.toNat = 48 ∧ 1 < nameLen s
      · have q1 : ((b.toNat : Int) == 48) = true := by simp [h48.1]
        have q2 : ((1 : Int) < (nameLen s : Int)) = True := by simp; omega
        clear e16
        go_wp2_with fail
        simp [bodyPost, results, Tryz.results29, go_sem, c0, c1, c2, c3]
        exact ⟨hch _ _ _ _, ⟨0, 0, [], 0⟩, rfl⟩
      · have q3 := e16 h48
        by_cases h48b : b.toNat = 48
        · have q1 : ((b.toNat : Int) == 48) = true := by simp [h48b]
          have q2 : ((1 : Int) < (nameLen s : Int)) = False := by simp; omega
          exfalso
          have : ¬ nameLen s ≤ 16 := fun h2 => hq ⟨h48, h2⟩
          omega
        · have q1 : ((b.toNat : Int) == 48) = false := by simp; omega
          clear e16
          go_wp2_with fail
          simp [bodyPost, results, Tryz.results29, go_sem, c0, c1, c2, c3]
          exact ⟨hch _ _ _ _, ⟨0, 0, [], 0⟩, rfl⟩
    case pos =>
      have q3 : ((16 : Int) < (nameLen s : Int)) = False := by simp; omega
      have hd := HD.out w1
      obtain ⟨bb, q1, q2⟩ : ∃ bb, ((b.toNat : Int) == 48) = bb ∧ (bb = true → ((1 : Int) < (nameLen s : Int)) = False) := by
        refine ⟨_, rfl, fun h => ?_⟩
        have : ¬ (b.toNat = 48 ∧ 1 < nameLen s) := hq.1
        simp at h ⊢
        omega
      have hr1 := HR.out
      rw [if_pos ⟨had, hq⟩] at hr1
      clear HR HD HT hb1
      have hch : ∀ w2, Below w1.heap.size w1 w2 → ∀ x y z u, Below w.heap.size w ((((w2.setCell ⟨w.heap.size, 0, none⟩ x).setCell ⟨w.heap.size, 1, none⟩ y).setCell ⟨w.heap.size, 2, none⟩ z).setCell ⟨w.heap.size, 3, none⟩ u) := fun w2 hb2 x y z u =>
        ((((hbw.trans ⟨hb2.os, hb2.tape, hb2.output, hb2.size, fun k hk => hb2.block k (Nat.lt_of_lt_of_le hk hbw.size)⟩).setCell (p := ⟨w.heap.size, 0, none⟩) (Nat.le_refl _) _).setCell (p := ⟨w.heap.size, 1, none⟩) (Nat.le_refl _) _).setCell (p := ⟨w.heap.size, 2, none⟩) (Nat.le_refl _) _).setCell (p := ⟨w.heap.size, 3, none⟩) (Nat.le_refl _) _
      have hlt : w.heap.size < w1.heap.size := (Array.getElem?_eq_some_iff.1 hB1).1
      have hcell : ∀ w2, Below w1.heap.size w1 w2 → w2.heap[w.heap.size]? = some (.cells #[.int .u8 0, .int .i64 0, .string ⟨#[]⟩, .float .f64 0] 59 (0, 0)) := fun w2 hb2 => (hb2.block _ hlt).trans hB1
      generalize floatOfInt .f64 ((foldN (s.take (nameLen s))).1 : Nat) = F at hd hr1
      cases hgr : (foldN (s.take (nameLen s))).2 with
      | true =>
        rw [hgr] at hd hr1
        simp only [if_true] at hd hr1
        subst hr1
        cases bb
        · clear q2
          go_wp2_with (go_at_call 50; refine hd.mono ?_; rintro e w2 ⟨rfl, hb2⟩; have hB2 := hcell w2 hb2; have g0 : w2.cell? ⟨w.heap.size, 0, none⟩ = some (.int .u8 0) := (by simp [World.cell?, hB2]); have g1 : w2.cell? ⟨w.heap.size, 1, none⟩ = some (.int .i64 0) := (by simp [World.cell?, hB2]); have g2 : w2.cell? ⟨w.heap.size, 2, none⟩ = some (.string ⟨#[]⟩) := (by simp [World.cell?, hB2]); have g3 : w2.cell? ⟨w.heap.size, 3, none⟩ = some (.float .f64 0) := (by simp [World.cell?, hB2]); have k0 : w2.frozen? ⟨w.heap.size, 0, none⟩ = false := (by simp [World.frozen?, hB2]); have k1 : w2.frozen? ⟨w.heap.size, 1, none⟩ = false := (by simp [World.frozen?, hB2]); have k2 : w2.frozen? ⟨w.heap.size, 2, none⟩ = false := (by simp [World.frozen?, hB2]); have k3 : w2.frozen? ⟨w.heap.size, 3, none⟩ = false := (by simp [World.frozen?, hB2]))
          simp [bodyPost, results, Tryz.results29, go_sem, g0, g1, g2, g3]
          exact ⟨hch _ hb2 _ _ _ _, ⟨0, 0, [], 0⟩, rfl⟩
        · have q2' := q2 rfl
          clear q2
          go_wp2_with (go_at_call 50; refine hd.mono ?_; rintro e w2 ⟨rfl, hb2⟩; have hB2 := hcell w2 hb2; have g0 : w2.cell? ⟨w.heap.size, 0, none⟩ = some (.int .u8 0) := (by simp [World.cell?, hB2]); have g1 : w2.cell? ⟨w.heap.size, 1, none⟩ = some (.int .i64 0) := (by simp [World.cell?, hB2]); have g2 : w2.cell? ⟨w.heap.size, 2, none⟩ = some (.string ⟨#[]⟩) := (by simp [World.cell?, hB2]); have g3 : w2.cell? ⟨w.heap.size, 3, none⟩ = some (.float .f64 0) := (by simp [World.cell?, hB2]); have k0 : w2.frozen? ⟨w.heap.size, 0, none⟩ = false := (by simp [World.frozen?, hB2]); have k1 : w2.frozen? ⟨w.heap.size, 1, none⟩ = false := (by simp [World.frozen?, hB2]); have k2 : w2.frozen? ⟨w.heap.size, 2, none⟩ = false := (by simp [World.frozen?, hB2]); have k3 : w2.frozen? ⟨w.heap.size, 3, none⟩ = false := (by simp [World.frozen?, hB2]))
          simp [bodyPost, results, Tryz.results29, go_sem, g0, g1, g2, g3]
          exact ⟨hch _ hb2 _ _ _ _, ⟨0, 0, [], 0⟩, rfl⟩
      | false =>
        rw [hgr] at hd hr1
        simp only [Bool.false_eq_true, if_false] at hd hr1
        cases hm : mayN F with
        | true =>
          rw [hm] at hr1
          simp only [if_true] at hr1
          subst hr1
          have hmc := fun w => may_calls F w
          rw [hm] at hmc
          cases bb
          · clear q2
            go_wp2_with (first | (go_at_call 50; refine hd.mono ?_; rintro e w2 ⟨rfl, hb2⟩; have hB2 := hcell w2 hb2; have g0 : w2.cell? ⟨w.heap.size, 0, none⟩ = some (.int .u8 0) := (by simp [World.cell?, hB2]); have g1 : w2.cell? ⟨w.heap.size, 1, none⟩ = some (.int .i64 0) := (by simp [World.cell?, hB2]); have g2 : w2.cell? ⟨w.heap.size, 2, none⟩ = some (.string ⟨#[]⟩) := (by simp [World.cell?, hB2]); have g3 : w2.cell? ⟨w.heap.size, 3, none⟩ = some (.float .f64 0) := (by simp [World.cell?, hB2]); have k0 : w2.frozen? ⟨w.heap.size, 0, none⟩ = false := (by simp [World.frozen?, hB2]); have k1 : w2.frozen? ⟨w.heap.size, 1, none⟩ = false := (by simp [World.frozen?, hB2]); have k2 : w2.frozen? ⟨w.heap.size, 2, none⟩ = false := (by simp [World.frozen?, hB2]); have k3 : w2.frozen? ⟨w.heap.size, 3, none⟩ = false := (by simp [World.frozen?, hB2])) | (go_at_call 51; refine (hmc _).mono ?_; rintro e w3 ⟨rfl, rfl⟩))
            have H8 := (heap_set (o := 3) (v := .float .f64 F) (heap_set (o := 2) (v := .string ⟨#[]⟩) (heap_set (o := 1) (v := .int .i64 0) (heap_set (o := 0) (v := .int .u8 3) (heap_set (o := 3) (v := .float .f64 F) (heap_set (o := 2) (v := .string ⟨#[]⟩) (heap_set (o := 1) (v := .int .i64 0) (heap_set (o := 0) (v := .int .u8 3) hB2))))))))
            have B8 : Below w.heap.size w (((((((((w3).setCell ⟨w.heap.size, 0, none⟩ (.int .u8 3)).setCell ⟨w.heap.size, 1, none⟩ (.int .i64 0)).setCell ⟨w.heap.size, 2, none⟩ (.string ⟨#[]⟩)).setCell ⟨w.heap.size, 3, none⟩ (.float .f64 F)).setCell ⟨w.heap.size, 0, none⟩ (.int .u8 3)).setCell ⟨w.heap.size, 1, none⟩ (.int .i64 0)).setCell ⟨w.heap.size, 2, none⟩ (.string ⟨#[]⟩)).setCell ⟨w.heap.size, 3, none⟩ (.float .f64 F)) := (((((((((hbw.trans ⟨hb2.os, hb2.tape, hb2.output, hb2.size, fun k hk => hb2.block k (Nat.lt_of_lt_of_le hk hbw.size)⟩).setCell (p := ⟨w.heap.size, 0, none⟩) (Nat.le_refl _) (.int .u8 3)).setCell (p := ⟨w.heap.size, 1, none⟩) (Nat.le_refl _) (.int .i64 0)).setCell (p := ⟨w.heap.size, 2, none⟩) (Nat.le_refl _) (.string ⟨#[]⟩)).setCell (p := ⟨w.heap.size, 3, none⟩) (Nat.le_refl _) (.float .f64 F)).setCell (p := ⟨w.heap.size, 0, none⟩) (Nat.le_refl _) (.int .u8 3)).setCell (p := ⟨w.heap.size, 1, none⟩) (Nat.le_refl _) (.int .i64 0)).setCell (p := ⟨w.heap.size, 2, none⟩) (Nat.le_refl _) (.string ⟨#[]⟩)).setCell (p := ⟨w.heap.size, 3, none⟩) (Nat.le_refl _) (.float .f64 F))
            generalize ((((((((w3).setCell ⟨w.heap.size, 0, none⟩ (.int .u8 3)).setCell ⟨w.heap.size, 1, none⟩ (.int .i64 0)).setCell ⟨w.heap.size, 2, none⟩ (.string ⟨#[]⟩)).setCell ⟨w.heap.size, 3, none⟩ (.float .f64 F)).setCell ⟨w.heap.size, 0, none⟩ (.int .u8 3)).setCell ⟨w.heap.size, 1, none⟩ (.int .i64 0)).setCell ⟨w.heap.size, 2, none⟩ (.string ⟨#[]⟩)).setCell ⟨w.heap.size, 3, none⟩ (.float .f64 F) = W at H8 B8 ⊢
            have p0 : W.cell? ⟨w.heap.size, 0, none⟩ = some (.int .u8 3) := by simp [World.cell?, H8]
            have p1 : W.cell? ⟨w.heap.size, 1, none⟩ = some (.int .i64 0) := by simp [World.cell?, H8]
            have p2 : W.cell? ⟨w.heap.size, 2, none⟩ = some (.string ⟨#[]⟩) := by simp [World.cell?, H8]
            have p3 : W.cell? ⟨w.heap.size, 3, none⟩ = some (.float .f64 F) := by simp [World.cell?, H8]
            simp [bodyPost, results, Tryz.results29, go_sem, p0, p1, p2, p3]
            exact ⟨B8, by simp [tokVals]⟩
          · have q2' := q2 rfl
            clear q2
            go_wp2_with (first | (go_at_call 50; refine hd.mono ?_; rintro e w2 ⟨rfl, hb2⟩; have hB2 := hcell w2 hb2; have g0 : w2.cell? ⟨w.heap.size, 0, none⟩ = some (.int .u8 0) := (by simp [World.cell?, hB2]); have g1 : w2.cell? ⟨w.heap.size, 1, none⟩ = some (.int .i64 0) := (by simp [World.cell?, hB2]); have g2 : w2.cell? ⟨w.heap.size, 2, none⟩ = some (.string ⟨#[]⟩) := (by simp [World.cell?, hB2]); have g3 : w2.cell? ⟨w.heap.size, 3, none⟩ = some (.float .f64 0) := (by simp [World.cell?, hB2]); have k0 : w2.frozen? ⟨w.heap.size, 0, none⟩ = false := (by simp [World.frozen?, hB2]); have k1 : w2.frozen? ⟨w.heap.size, 1, none⟩ = false := (by simp [World.frozen?, hB2]); have k2 : w2.frozen? ⟨w.heap.size, 2, none⟩ = false := (by simp [World.frozen?, hB2]); have k3 : w2.frozen? ⟨w.heap.size, 3, none⟩ = false := (by simp [World.frozen?, hB2])) | (go_at_call 51; refine (hmc _).mono ?_; rintro e w3 ⟨rfl, rfl⟩))
            have H8 := (heap_set (o := 3) (v := .float .f64 F) (heap_set (o := 2) (v := .string ⟨#[]⟩) (heap_set (o := 1) (v := .int .i64 0) (heap_set (o := 0) (v := .int .u8 3) (heap_set (o := 3) (v := .float .f64 F) (heap_set (o := 2) (v := .string ⟨#[]⟩) (heap_set (o := 1) (v := .int .i64 0) (heap_set (o := 0) (v := .int .u8 3) hB2))))))))
            have B8 : Below w.heap.size w (((((((((w3).setCell ⟨w.heap.size, 0, none⟩ (.int .u8 3)).setCell ⟨w.heap.size, 1, none⟩ (.int .i64 0)).setCell ⟨w.heap.size, 2, none⟩ (.string ⟨#[]⟩)).setCell ⟨w.heap.size, 3, none⟩ (.float .f64 F)).setCell ⟨w.heap.size, 0, none⟩ (.int .u8 3)).setCell ⟨w.heap.size, 1, none⟩ (.int .i64 0)).setCell ⟨w.heap.size, 2, none⟩ (.string ⟨#[]⟩)).setCell ⟨w.heap.size, 3, none⟩ (.float .f64 F)) := (((((((((hbw.trans ⟨hb2.os, hb2.tape, hb2.output, hb2.size, fun k hk => hb2.block k (Nat.lt_of_lt_of_le hk hbw.size)⟩).setCell (p := ⟨w.heap.size, 0, none⟩) (Nat.le_refl _) (.int .u8 3)).setCell (p := ⟨w.heap.size, 1, none⟩) (Nat.le_refl _) (.int .i64 0)).setCell (p := ⟨w.heap.size, 2, none⟩) (Nat.le_refl _) (.string ⟨#[]⟩)).setCell (p := ⟨w.heap.size, 3, none⟩) (Nat.le_refl _) (.float .f64 F)).setCell (p := ⟨w.heap.size, 0, none⟩) (Nat.le_refl _) (.int .u8 3)).setCell (p := ⟨w.heap.size, 1, none⟩) (Nat.le_refl _) (.int .i64 0)).setCell (p := ⟨w.heap.size, 2, none⟩) (Nat.le_refl _) (.string ⟨#[]⟩)).setCell (p := ⟨w.heap.size, 3, none⟩) (Nat.le_refl _) (.float .f64 F))
            generalize ((((((((w3).setCell ⟨w.heap.size, 0, none⟩ (.int .u8 3)).setCell ⟨w.heap.size, 1, none⟩ (.int .i64 0)).setCell ⟨w.heap.size, 2, none⟩ (.string ⟨#[]⟩)).setCell ⟨w.heap.size, 3, none⟩ (.float .f64 F)).setCell ⟨w.heap.size, 0, none⟩ (.int .u8 3)).setCell ⟨w.heap.size, 1, none⟩ (.int .i64 0)).setCell ⟨w.heap.size, 2, none⟩ (.string ⟨#[]⟩)).setCell ⟨w.heap.size, 3, none⟩ (.float .f64 F) = W at H8 B8 ⊢
            have p0 : W.cell? ⟨w.heap.size, 0, none⟩ = some (.int .u8 3) := by simp [World.cell?, H8]
            have p1 : W.cell? ⟨w.heap.size, 1, none⟩ = some (.int .i64 0) := by simp [World.cell?, H8]
            have p2 : W.cell? ⟨w.heap.size, 2, none⟩ = some (.string ⟨#[]⟩) := by simp [World.cell?, H8]
            have p3 : W.cell? ⟨w.heap.size, 3, none⟩ = some (.float .f64 F) := by simp [World.cell?, H8]
            simp [bodyPost, results, Tryz.results29, go_sem, p0, p1, p2, p3]
            exact ⟨B8, by simp [tokVals]⟩
        | false =>
          rw [hm] at hr1
          simp only [Bool.false_eq_true, if_false] at hr1
          subst hr1
          have hmc := fun w => may_calls F w
          rw [hm] at hmc
          cases bb
          · clear q2
            go_wp2_with (first | (go_at_call 50; refine hd.mono ?_; rintro e w2 ⟨rfl, hb2⟩; have hB2 := hcell w2 hb2; have g0 : w2.cell? ⟨w.heap.size, 0, none⟩ = some (.int .u8 0) := (by simp [World.cell?, hB2]); have g1 : w2.cell? ⟨w.heap.size, 1, none⟩ = some (.int .i64 0) := (by simp [World.cell?, hB2]); have g2 : w2.cell? ⟨w.heap.size, 2, none⟩ = some (.string ⟨#[]⟩) := (by simp [World.cell?, hB2]); have g3 : w2.cell? ⟨w.heap.size, 3, none⟩ = some (.float .f64 0) := (by simp [World.cell?, hB2]); have k0 : w2.frozen? ⟨w.heap.size, 0, none⟩ = false := (by simp [World.frozen?, hB2]); have k1 : w2.frozen? ⟨w.heap.size, 1, none⟩ = false := (by simp [World.frozen?, hB2]); have k2 : w2.frozen? ⟨w.heap.size, 2, none⟩ = false := (by simp [World.frozen?, hB2]); have k3 : w2.frozen? ⟨w.heap.size, 3, none⟩ = false := (by simp [World.frozen?, hB2])) | (go_at_call 51; refine (hmc _).mono ?_; rintro e w3 ⟨rfl, rfl⟩))
            simp [bodyPost, results, Tryz.results29, go_sem, g0, g1, g2, g3]
            exact ⟨hch _ hb2 _ _ _ _, ⟨0, 0, [], 0⟩, rfl⟩
          · have q2' := q2 rfl
            clear q2
            go_wp2_with (first | (go_at_call 50; refine hd.mono ?_; rintro e w2 ⟨rfl, hb2⟩; have hB2 := hcell w2 hb2; have g0 : w2.cell? ⟨w.heap.size, 0, none⟩ = some (.int .u8 0) := (by simp [World.cell?, hB2]); have g1 : w2.cell? ⟨w.heap.size, 1, none⟩ = some (.int .i64 0) := (by simp [World.cell?, hB2]); have g2 : w2.cell? ⟨w.heap.size, 2, none⟩ = some (.string ⟨#[]⟩) := (by simp [World.cell?, hB2]); have g3 : w2.cell? ⟨w.heap.size, 3, none⟩ = some (.float .f64 0) := (by simp [World.cell?, hB2]); have k0 : w2.frozen? ⟨w.heap.size, 0, none⟩ = false := (by simp [World.frozen?, hB2]); have k1 : w2.frozen? ⟨w.heap.size, 1, none⟩ = false := (by simp [World.frozen?, hB2]); have k2 : w2.frozen? ⟨w.heap.size, 2, none⟩ = false := (by simp [World.frozen?, hB2]); have k3 : w2.frozen? ⟨w.heap.size, 3, none⟩ = false := (by simp [World.frozen?, hB2])) | (go_at_call 51; refine (hmc _).mono ?_; rintro e w3 ⟨rfl, rfl⟩))
            simp [bodyPost, results, Tryz.results29, go_sem, g0, g1, g2, g3]
            exact ⟨hch _ hb2 _ _ _ _, ⟨0, 0, [], 0⟩, rfl⟩
  · have hne : Lib.trimS (s.take (nameLen s)) [48, 49, 50, 51, 52, 53, 54, 55, 56, 57] ≠ [] := fun e => had (htd.1 e)
    have hr0 : r = .error 0 := by rw [HR.out, if_neg (fun h => had h.1)]
    clear HR
    subst hr0
    have htr2 : ∀ o, Calls Tryz.prog 49 #[.string ((⟨s.toArray⟩ : ByteArray).extract 0 (nameLen s)), .string ⟨#[48, 49, 50, 51, 52, 53, 54, 55, 56, 57]⟩] (w.alloc o) fun e w' => e = .returned (.string ⟨(Lib.trimS (s.take (nameLen s)) [48, 49, 50, 51, 52, 53, 54, 55, 56, 57]).toArray⟩) ∧ Below (w.alloc o).heap.size (w.alloc o) w' := fun o => by
      have := htr o
      rw [show ((⟨s.toArray⟩ : ByteArray).extract 0 (nameLen s)).data.toList = s.take (nameLen s) by rw [bext_zero], show (⟨#[48, 49, 50, 51, 52, 53, 54, 55, 56, 57]⟩ : ByteArray).data.toList = [48, 49, 50, 51, 52, 53, 54, 55, 56, 57] from rfl] at this
      exact this
    clear htr htd
    generalize Lib.trimS (s.take (nameLen s)) [48, 49, 50, 51, 52, 53, 54, 55, 56, 57] = tr at hne htr2
    have hie : tr.isEmpty = false := by cases tr <;> simp at hne ⊢
    have HT := hidden htr2
    clear htr2
    go_enter Tryz.func29, Tryz.ntmps29
    go_wp2_with (first | (go_at_call 46; refine (hkc _).mono ?_; rintro e w' ⟨rfl, rfl⟩) | (go_at_call 47; refine (run_calls s h2 _).mono ?_; rintro e w' ⟨rfl, rfl⟩))
    refine (HT.out _).mono ?_
    rintro e w1 ⟨rfl, hb1⟩
    have hB1 : w1.heap[w.heap.size]? = some (.cells #[.int .u8 0, .int .i64 0, .string ⟨#[]⟩, .float .f64 0] 59 (0, 0)) := (hb1.block _ (by simp)).trans (heap_alloc_new w _)
    have hbw : Below w.heap.size w w1 := (bl _).trans ⟨hb1.os, hb1.tape, hb1.output, hb1.size, fun k hk => hb1.block k (by simp; omega)⟩
    have c0 : w1.cell? ⟨w.heap.size, 0, none⟩ = some (.int .u8 0) := by simp [World.cell?, hB1]
    have c1 : w1.cell? ⟨w.heap.size, 1, none⟩ = some (.int .i64 0) := by simp [World.cell?, hB1]
    have c2 : w1.cell? ⟨w.heap.size, 2, none⟩ = some (.string ⟨#[]⟩) := by simp [World.cell?, hB1]
    have c3 : w1.cell? ⟨w.heap.size, 3, none⟩ = some (.float .f64 0) := by simp [World.cell?, hB1]
    have fz : ∀ o, w1.frozen? ⟨w.heap.size, o, none⟩ = false := fun o => by simp [World.frozen?, hB1]
    have f0 := fz 0
    have f1 := fz 1
    have f2 := fz 2
    have f3 := fz 3
    have hch : ∀ x y z u, Below w.heap.size w ((((w1.setCell ⟨w.heap.size, 0, none⟩ x).setCell ⟨w.heap.size, 1, none⟩ y).setCell ⟨w.heap.size, 2, none⟩ z).setCell ⟨w.heap.size, 3, none⟩ u) := fun x y z u =>
      (((hbw.setCell (p := ⟨w.heap.size, 0, none⟩) (Nat.le_refl _) _).setCell (p := ⟨w.heap.size, 1, none⟩) (Nat.le_refl _) _).setCell (p := ⟨w.heap.size, 2, none⟩) (Nat.le_refl _) _).setCell (p := ⟨w.heap.size, 3, none⟩) (Nat.le_refl _) _
    go_wp2_with fail
    simp [bodyPost, results, Tryz.results29, go_sem, c0, c1, c2, c3]
    exact ⟨hch _ _ _ _, ⟨0, 0, [], 0⟩, rfl⟩

end Go.Proofs.YtgdamcmfdhhheaaGreatDoor

/- lex.token at a quote, walked. -/
namespace Go.Proofs.YtgdamcmfdhhheaaGreatDoor
open Go.RowKit Bf

theorem bext_one (s : List UInt8) (n : Nat) : (⟨s.toArray⟩ : ByteArray).extract 1 n = ⟨((s.take n).drop 1).toArray⟩ := by
  rw [bext, List.drop_take]

theorem closedFrom_le (q : UInt8) : ∀ (n : Nat) (s : List UInt8) (i : Nat), s.length ≤ n → closedFrom q s i = 0 ∨ closedFrom q s i < i + s.length := by
  intro n
  induction n with
  | zero =>
    intro s i h
    have : s = [] := List.eq_nil_of_length_eq_zero (by omega)
    subst this
    left; unfold closedFrom; rfl
  | succ n ih =>
    intro s i h
    cases s with
    | nil => left; unfold closedFrom; rfl
    | cons b t =>
      rw [closedFrom.eq_def]
      simp only
      split
      · right; simp
      · split
        · left; rfl
        · split
          · cases t with
            | nil => left; rfl
            | cons c t' =>
              simp only
              split
              · have := ih (c :: t') (i + 1) (by simp at h ⊢; omega); simp at this ⊢; omega
              · have := ih t' (i + 2) (by simp at h ⊢; omega); simp at this ⊢; omega
          · have := ih t (i + 1) (by simp at h ⊢; omega); simp at this ⊢; omega

theorem closedN_lt (s : List UInt8) (h : 1 ≤ s.length) : closedN s < s.length := by
  unfold closedN
  have := closedFrom_le (s.headD 0) s.tail.length s.tail 1 (Nat.le_refl _)
  rw [List.length_tail] at this
  omega

theorem plainFrom_err : ∀ (f : Nat) (s : List UInt8) (i : Nat) (acc : List UInt8) (k : Nat), plainFrom f s i acc = .error k → k < i + s.length := by
  intro f
  induction f with
  | zero => intro s i acc k h; cases h
  | succ f ih =>
    intro s i acc k h
    cases s with
    | nil => cases h
    | cons b t =>
      simp only [plainFrom] at h
      split at h
      · split at h
        · cases h; simp
        · have := ih _ _ _ _ h; have h2 := escape_le t; simp at this ⊢; omega
      · have := ih _ _ _ _ h; simp at this ⊢; omega

set_option maxRecDepth 100000 in
set_option maxHeartbeats 4000000 in
theorem token_quote (s : List UInt8) (h1 : 1 ≤ s.length) (h2 : s.length ≤ 65536) (w : World) (hg : Ground w) (b : UInt8) (hb : s.headD 0 = b) (hk : bKind b = 3) :
    Calls Tryz.prog 29 #[.string ⟨s.toArray⟩] w (PostTok w (tokN s)) := by
  have hi0 : 0 < (⟨s.toArray⟩ : ByteArray).size := by simp [ByteArray.size]; omega
  have hh : ∀ h, (⟨s.toArray⟩ : ByteArray)[0]'h = b := fun _ => by cases s with | nil => simp at h1 | cons c t => exact hb
  have hk0 : ((bKind b : Nat) : Int) = 3 := by rw [hk]; rfl
  have hkc : ∀ w, Calls Tryz.prog 46 #[.int .u8 (b.toNat : Nat)] w fun e w' => e = .returned (.int .i64 3) ∧ w' = w := fun w => by
    have := kind_calls b w
    rw [hk0] at this
    exact this
  have bl : ∀ o, Below w.heap.size w (w.alloc o) := fun o => (Below.refl _ _).alloc (Nat.le_refl _) o
  have hcl := fun w => closed_calls s h2 (by intro e; subst e; simp at h1) w
  have hlt := closedN_lt s h1
  have hpl := plain_calls ((s.take (closedN s)).drop 1) (by simp; omega)
  rw [← bext_one] at hpl
  have hr : tokN s = if closedN s = 0 then .error 0
    else match plainN ((s.take (closedN s)).drop 1) with
      | .error i => .error (1 + i)
      | .ok t => if t.length ≤ 4096 then .ok (⟨4, 0, t, 0⟩, closedN s + 1) else .error 0 := by unfold tokN; rw [hb, if_neg (by omega), if_neg (by omega), if_pos hk]; rfl
  have herr : ∀ i, plainN ((s.take (closedN s)).drop 1) = .error i → i < 65536 := fun i e => by have := plainFrom_err _ _ _ _ _ e; simp at this; omega
  unfold plainV at hpl
  generalize tokN s = r at hr ⊢
  generalize plainN ((s.take (closedN s)).drop 1) = pl at hr hpl herr
  have HP := hidden hpl
  clear hpl
  by_cases h0 : closedN s = 0
  · have hr0 : r = .error 0 := by rw [hr, if_pos h0]
    clear hr
    subst hr0
    have hcl2 : ∀ w, Calls Tryz.prog 52 #[.string ⟨s.toArray⟩] w fun e w' => e = .returned (.int .i64 0) ∧ w' = w := fun w => by
      have := hcl w
      rw [h0] at this
      exact this
    clear hcl
    go_enter Tryz.func29, Tryz.ntmps29
    go_wp2_with (first | (go_at_call 46; refine (hkc _).mono ?_; rintro e w' ⟨rfl, rfl⟩) | (go_at_call 52; refine (hcl2 _).mono ?_; rintro e w' ⟨rfl, rfl⟩))
    simp [bodyPost, results, Tryz.results29, go_sem]
    exact ⟨bl _, ⟨0, 0, [], 0⟩, rfl⟩
  · rw [if_neg h0] at hr
    have e0 : ((closedN s : Int) == 0) = false := by simp; omega
    have hcell : ∀ o w1, Below (w.alloc o).heap.size (w.alloc o) w1 → Below w.heap.size w w1 := fun o w1 hb1 => (bl o).trans ⟨hb1.os, hb1.tape, hb1.output, hb1.size, fun k hk => hb1.block k (by simp; omega)⟩
    have hi1 : ((closedN s : Int) ≤ (s.length : Int)) = True := by simp; omega
    have hi2 : ((1 : Int) ≤ (closedN s : Int)) = True := by simp; omega
    generalize closedN s = cl at hr HP hcl hlt h0 e0 hi1 hi2
    cases pl with
    | error i =>
      simp only at hr
      subst hr
      have HP2 := HP.out
      simp only at HP2
      clear HP
      have HP := hidden HP2
      clear HP2
      have hi64 : wrap64 (1 + (i : Int)) = 1 + (i : Int) := by
        have := herr i rfl
        unfold wrap64; omega
      have hch : ∀ w1 x y z u, Below w.heap.size w w1 → Below w.heap.size w ((((w1.setCell ⟨w.heap.size, 0, none⟩ x).setCell ⟨w.heap.size, 1, none⟩ y).setCell ⟨w.heap.size, 2, none⟩ z).setCell ⟨w.heap.size, 3, none⟩ u) := fun w1 x y z u hbw =>
        (((hbw.setCell (p := ⟨w.heap.size, 0, none⟩) (Nat.le_refl _) _).setCell (p := ⟨w.heap.size, 1, none⟩) (Nat.le_refl _) _).setCell (p := ⟨w.heap.size, 2, none⟩) (Nat.le_refl _) _).setCell (p := ⟨w.heap.size, 3, none⟩) (Nat.le_refl _) _
      go_enter Tryz.func29, Tryz.ntmps29
      go_wp2_with (first | (go_at_call 46; refine (hkc _).mono ?_; rintro e w' ⟨rfl, rfl⟩) | (go_at_call 52; refine (hcl _).mono ?_; rintro e w' ⟨rfl, rfl⟩) | (go_at_call 53; refine (HP.out _).mono ?_; rintro e w1 ⟨rfl, hb1⟩; have hB1 : w1.heap[w.heap.size]? = some (.cells #[.int .u8 0, .int .i64 0, .string ⟨#[]⟩, .float .f64 0] 59 (0, 0)) := ((hb1.block _ (by simp)).trans (heap_alloc_new w _)); have hbw := hcell _ _ hb1; have c0 : w1.cell? ⟨w.heap.size, 0, none⟩ = some (.int .u8 0) := (by simp [World.cell?, hB1]); have c1 : w1.cell? ⟨w.heap.size, 1, none⟩ = some (.int .i64 0) := (by simp [World.cell?, hB1]); have c2 : w1.cell? ⟨w.heap.size, 2, none⟩ = some (.string ⟨#[]⟩) := (by simp [World.cell?, hB1]); have c3 : w1.cell? ⟨w.heap.size, 3, none⟩ = some (.float .f64 0) := (by simp [World.cell?, hB1]); have k0 : w1.frozen? ⟨w.heap.size, 0, none⟩ = false := (by simp [World.frozen?, hB1]); have k1 : w1.frozen? ⟨w.heap.size, 1, none⟩ = false := (by simp [World.frozen?, hB1]); have k2 : w1.frozen? ⟨w.heap.size, 2, none⟩ = false := (by simp [World.frozen?, hB1]); have k3 : w1.frozen? ⟨w.heap.size, 3, none⟩ = false := (by simp [World.frozen?, hB1])))
      simp [bodyPost, results, Tryz.results29, go_sem, c0, c1, c2, c3]
      exact ⟨hch _ _ _ _ _ hbw, ⟨0, 0, [], 0⟩, by rw [hi64]; rfl⟩
    | ok t =>
      simp only at hr
      have hch : ∀ w1 x y z u, Below w.heap.size w w1 → Below w.heap.size w ((((w1.setCell ⟨w.heap.size, 0, none⟩ x).setCell ⟨w.heap.size, 1, none⟩ y).setCell ⟨w.heap.size, 2, none⟩ z).setCell ⟨w.heap.size, 3, none⟩ u) := fun w1 x y z u hbw =>
        (((hbw.setCell (p := ⟨w.heap.size, 0, none⟩) (Nat.le_refl _) _).setCell (p := ⟨w.heap.size, 1, none⟩) (Nat.le_refl _) _).setCell (p := ⟨w.heap.size, 2, none⟩) (Nat.le_refl _) _).setCell (p := ⟨w.heap.size, 3, none⟩) (Nat.le_refl _) _
      by_cases h4 : t.length ≤ 4096
      · rw [if_pos h4] at hr
        subst hr
        have HP2 := HP.out
        simp only [h4, if_true] at HP2
        clear HP
        have HP := hidden HP2
        clear HP2
        go_enter Tryz.func29, Tryz.ntmps29
        go_wp2_with (first | (go_at_call 46; refine (hkc _).mono ?_; rintro e w' ⟨rfl, rfl⟩) | (go_at_call 52; refine (hcl _).mono ?_; rintro e w' ⟨rfl, rfl⟩) | (go_at_call 53; refine (HP.out _).mono ?_; rintro e w1 ⟨rfl, hb1⟩; have hB1 : w1.heap[w.heap.size]? = some (.cells #[.int .u8 0, .int .i64 0, .string ⟨#[]⟩, .float .f64 0] 59 (0, 0)) := ((hb1.block _ (by simp)).trans (heap_alloc_new w _)); have hbw := hcell _ _ hb1; have c0 : w1.cell? ⟨w.heap.size, 0, none⟩ = some (.int .u8 0) := (by simp [World.cell?, hB1]); have c1 : w1.cell? ⟨w.heap.size, 1, none⟩ = some (.int .i64 0) := (by simp [World.cell?, hB1]); have c2 : w1.cell? ⟨w.heap.size, 2, none⟩ = some (.string ⟨#[]⟩) := (by simp [World.cell?, hB1]); have c3 : w1.cell? ⟨w.heap.size, 3, none⟩ = some (.float .f64 0) := (by simp [World.cell?, hB1]); have k0 : w1.frozen? ⟨w.heap.size, 0, none⟩ = false := (by simp [World.frozen?, hB1]); have k1 : w1.frozen? ⟨w.heap.size, 1, none⟩ = false := (by simp [World.frozen?, hB1]); have k2 : w1.frozen? ⟨w.heap.size, 2, none⟩ = false := (by simp [World.frozen?, hB1]); have k3 : w1.frozen? ⟨w.heap.size, 3, none⟩ = false := (by simp [World.frozen?, hB1])))
        have H8 := (heap_set (o := 3) (v := .float .f64 0) (heap_set (o := 2) (v := .string ⟨t.toArray⟩) (heap_set (o := 1) (v := .int .i64 0) (heap_set (o := 0) (v := .int .u8 4) (heap_set (o := 3) (v := .float .f64 0) (heap_set (o := 2) (v := .string ⟨t.toArray⟩) (heap_set (o := 1) (v := .int .i64 0) (heap_set (o := 0) (v := .int .u8 4) hB1))))))))
        have B8 : Below w.heap.size w (((((((((w1).setCell ⟨w.heap.size, 0, none⟩ (.int .u8 4)).setCell ⟨w.heap.size, 1, none⟩ (.int .i64 0)).setCell ⟨w.heap.size, 2, none⟩ (.string ⟨t.toArray⟩)).setCell ⟨w.heap.size, 3, none⟩ (.float .f64 0)).setCell ⟨w.heap.size, 0, none⟩ (.int .u8 4)).setCell ⟨w.heap.size, 1, none⟩ (.int .i64 0)).setCell ⟨w.heap.size, 2, none⟩ (.string ⟨t.toArray⟩)).setCell ⟨w.heap.size, 3, none⟩ (.float .f64 0)) := ((((((((hbw.setCell (p := ⟨w.heap.size, 0, none⟩) (Nat.le_refl _) (.int .u8 4)).setCell (p := ⟨w.heap.size, 1, none⟩) (Nat.le_refl _) (.int .i64 0)).setCell (p := ⟨w.heap.size, 2, none⟩) (Nat.le_refl _) (.string ⟨t.toArray⟩)).setCell (p := ⟨w.heap.size, 3, none⟩) (Nat.le_refl _) (.float .f64 0)).setCell (p := ⟨w.heap.size, 0, none⟩) (Nat.le_refl _) (.int .u8 4)).setCell (p := ⟨w.heap.size, 1, none⟩) (Nat.le_refl _) (.int .i64 0)).setCell (p := ⟨w.heap.size, 2, none⟩) (Nat.le_refl _) (.string ⟨t.toArray⟩)).setCell (p := ⟨w.heap.size, 3, none⟩) (Nat.le_refl _) (.float .f64 0))
        generalize ((((((((w1).setCell ⟨w.heap.size, 0, none⟩ (.int .u8 4)).setCell ⟨w.heap.size, 1, none⟩ (.int .i64 0)).setCell ⟨w.heap.size, 2, none⟩ (.string ⟨t.toArray⟩)).setCell ⟨w.heap.size, 3, none⟩ (.float .f64 0)).setCell ⟨w.heap.size, 0, none⟩ (.int .u8 4)).setCell ⟨w.heap.size, 1, none⟩ (.int .i64 0)).setCell ⟨w.heap.size, 2, none⟩ (.string ⟨t.toArray⟩)).setCell ⟨w.heap.size, 3, none⟩ (.float .f64 0) = W at H8 B8 ⊢
        have p0 : W.cell? ⟨w.heap.size, 0, none⟩ = some (.int .u8 4) := by simp [World.cell?, H8]
        have p1 : W.cell? ⟨w.heap.size, 1, none⟩ = some (.int .i64 0) := by simp [World.cell?, H8]
        have p2 : W.cell? ⟨w.heap.size, 2, none⟩ = some (.string ⟨t.toArray⟩) := by simp [World.cell?, H8]
        have p3 : W.cell? ⟨w.heap.size, 3, none⟩ = some (.float .f64 0) := by simp [World.cell?, H8]
        simp [bodyPost, results, Tryz.results29, go_sem, p0, p1, p2, p3]
        exact ⟨B8, by simp [tokVals]⟩
      · rw [if_neg h4] at hr
        subst hr
        have HP2 := HP.out
        simp only [h4, if_false] at HP2
        clear HP
        have HP := hidden HP2
        clear HP2
        go_enter Tryz.func29, Tryz.ntmps29
        go_wp2_with (first | (go_at_call 46; refine (hkc _).mono ?_; rintro e w' ⟨rfl, rfl⟩) | (go_at_call 52; refine (hcl _).mono ?_; rintro e w' ⟨rfl, rfl⟩) | (go_at_call 53; refine (HP.out _).mono ?_; rintro e w1 ⟨rfl, hb1⟩; have hB1 : w1.heap[w.heap.size]? = some (.cells #[.int .u8 0, .int .i64 0, .string ⟨#[]⟩, .float .f64 0] 59 (0, 0)) := ((hb1.block _ (by simp)).trans (heap_alloc_new w _)); have hbw := hcell _ _ hb1; have c0 : w1.cell? ⟨w.heap.size, 0, none⟩ = some (.int .u8 0) := (by simp [World.cell?, hB1]); have c1 : w1.cell? ⟨w.heap.size, 1, none⟩ = some (.int .i64 0) := (by simp [World.cell?, hB1]); have c2 : w1.cell? ⟨w.heap.size, 2, none⟩ = some (.string ⟨#[]⟩) := (by simp [World.cell?, hB1]); have c3 : w1.cell? ⟨w.heap.size, 3, none⟩ = some (.float .f64 0) := (by simp [World.cell?, hB1]); have k0 : w1.frozen? ⟨w.heap.size, 0, none⟩ = false := (by simp [World.frozen?, hB1]); have k1 : w1.frozen? ⟨w.heap.size, 1, none⟩ = false := (by simp [World.frozen?, hB1]); have k2 : w1.frozen? ⟨w.heap.size, 2, none⟩ = false := (by simp [World.frozen?, hB1]); have k3 : w1.frozen? ⟨w.heap.size, 3, none⟩ = false := (by simp [World.frozen?, hB1])))
        simp [bodyPost, results, Tryz.results29, go_sem, c0, c1, c2, c3]
        exact ⟨hch _ _ _ _ _ hbw, ⟨0, 0, [], 0⟩, rfl⟩

theorem token_calls (s : List UInt8) (h1 : 1 ≤ s.length) (h2 : s.length ≤ 65536) (w : World) (hg : Ground w) :
    Calls Tryz.prog 29 #[.string ⟨s.toArray⟩] w (PostTok w (tokN s)) := by
  have hk : bKind (s.headD 0) = 0 ∨ bKind (s.headD 0) = 1 ∨ bKind (s.headD 0) = 2 ∨ bKind (s.headD 0) = 3 := by
    unfold bKind
    repeat' split
    all_goals simp
  rcases hk with hk | hk | hk | hk
  · exact token_sign s h1 h2 w hg _ rfl hk
  · exact token_name s h1 h2 w hg _ rfl hk
  · exact token_digit s h1 h2 w hg _ rfl hk
  · exact token_quote s h1 h2 w hg _ rfl hk

end Go.Proofs.YtgdamcmfdhhheaaGreatDoor

/- lex.Tokens, walked. -/
namespace Go.Proofs.YtgdamcmfdhhheaaGreatDoor
open Go.RowKit Bf

def isBlank (b : UInt8) : Bool := b.toNat == 9 || b.toNat == 10 || b.toNat == 13 || b.toNat == 32

/-- The next step at a text that is not empty: bytes to pass over, a token, or what is wrong (the place, from here). -/
inductive Lx where
  | skip (n : Nat)
  | tok (t : Tok) (n : Nat)
  | bad (n : Nat)

def lxN (s : List UInt8) : Lx :=
  if isBlank (s.headD 0) then .skip 1
  else if (s.headD 0).toNat = 47 ∧ Lib.hasPrefix s [47, 47] = true then .skip (Lib.cut s [10]).1.length
  else if (s.headD 0).toNat = 47 ∧ Lib.hasPrefix s [47, 42] = true then
    if Lib.index (s.drop 2) [42, 47] < 0 then .bad 0 else .skip ((Lib.index (s.drop 2) [42, 47]).toNat + 4)
  else match tokN s with
    | .error n => .bad n
    | .ok (t, n) => .tok t n

/-- The tokens of what is left, from a place on; an error: its place and number. -/
def lexFrom : Nat → List UInt8 → Nat → List Tok → Except (Nat × Nat) (List Tok)
  | 0, _, _, acc => .ok acc
  | _ + 1, [], _, acc => .ok acc
  | f + 1, b :: s, i, acc =>
    match lxN (b :: s) with
    | .skip n => lexFrom f ((b :: s).drop n) (i + n) acc
    | .tok t n => if acc.length = 16384 then .error (i, 4) else lexFrom f ((b :: s).drop n) (i + n) (acc ++ [{ t with pos := i }])
    | .bad n => .error (i + n, 5)

def tokens (s : List UInt8) : Except (Nat × Nat) (List Tok) :=
  match lexFrom s.length s 0 [] with
  | .ok l => .ok (l ++ [⟨0, s.length, [], 0⟩])
  | .error e => .error e

def tokRow (l : List Tok) : List Value := (l.map tokVals).flatten

def PostToks (w : World) (r : Except (Nat × Nat) (List Tok)) (e : Ending) (w' : World) : Prop :=
  Below w.heap.size w w' ∧
  match r with
  | .ok l => ∃ v, e = .returned (.tuple #[v, .int .i64 0, .int .i64 0]) ∧ w'.ownsRow w.heap.size 59 4 v l.length (tokRow l)
  | .error (p, n) => e = .returned (.tuple #[.slice none 0 0, .int .i64 (p : Nat), .int .i64 (n : Nat)])

theorem index_room : ∀ (s sub : List UInt8), 0 ≤ Lib.index s sub → (Lib.index s sub).toNat + sub.length ≤ s.length := by
  intro s sub
  induction s with
  | nil =>
    intro h
    cases sub with
    | nil => simp [Lib.index]
    | cons a t => simp [Lib.index] at h
  | cons b t ih =>
    intro h
    unfold Lib.index at h ⊢
    by_cases h1 : sub.isPrefixOf (b :: t) = true
    · rw [if_pos h1]
      have := (List.isPrefixOf_iff_prefix.1 h1).length_le
      simpa using this
    · rw [if_neg h1] at h ⊢
      have hge := Lib.index_ge t sub
      by_cases h2 : Lib.index t sub = -1
      · rw [h2] at h; simp at h
      · have h3 : (Lib.index t sub == -1) = false := by simpa using h2
        rw [h3] at h ⊢
        simp only [Bool.false_eq_true, if_false] at h ⊢
        have := ih (by omega)
        simp only [List.length_cons]
        omega

theorem cut_line (d : List UInt8) (h : Lib.hasPrefix d [47, 47] = true) : 1 ≤ (Lib.cut d [10]).1.length ∧ (Lib.cut d [10]).1.length ≤ d.length := by
  unfold Lib.hasPrefix at h
  obtain ⟨t, rfl⟩ := List.isPrefixOf_iff_prefix.1 h
  unfold Lib.cut
  split
  · rename_i h0
    have e : Lib.index ([47, 47] ++ t) [10] ≠ 0 := by
      show Lib.index (47 :: 47 :: t) [10] ≠ 0
      unfold Lib.index
      have h1 : ([10] : List UInt8).isPrefixOf (47 :: 47 :: t) = false := by simp [List.isPrefixOf]
      have hge := Lib.index_ge (47 :: t) [10]
      rw [h1]
      simp only [Bool.false_eq_true, if_false]
      split
      · simp
      · rename_i h2; simp at h2; omega
    simp only [List.length_take]
    simp at h0 e ⊢
    omega
  · simp

theorem nameLen_pos {s : List UInt8} (h1 : 1 ≤ s.length) (hk : bKind (s.headD 0) = 1 ∨ bKind (s.headD 0) = 2) : 1 ≤ nameLen s := by
  cases s with
  | nil => simp at h1
  | cons c t => simp at hk; rw [nameLen_cons]; rcases hk with hk | hk <;> simp [isNm, hk]

theorem signFrom_le (s : List UInt8) : ∀ n, signFrom n s ≤ n := by
  intro n
  induction n with
  | zero => exact Nat.le_refl _
  | succ n ih => unfold signFrom; split <;> omega

theorem tokN_len {s : List UInt8} (h1 : 1 ≤ s.length) {t : Tok} {n : Nat} (h : tokN s = .ok (t, n)) : 1 ≤ n ∧ n ≤ s.length := by
  unfold tokN at h
  by_cases hk : bKind (s.headD 0) = 1
  · rw [if_pos hk] at h
    split at h
    · cases h
    · cases h; exact ⟨nameLen_pos h1 (.inl hk), nameLen_le s⟩
  rw [if_neg hk] at h
  by_cases hk2 : bKind (s.headD 0) = 2
  · rw [if_pos hk2] at h
    repeat' split at h
    all_goals first
      | (cases h; done)
      | (cases h; exact ⟨nameLen_pos h1 (.inr hk2), nameLen_le s⟩)
  rw [if_neg hk2] at h
  by_cases hk3 : bKind (s.headD 0) = 3
  · rw [if_pos hk3] at h
    have := closedN_lt s h1
    split at h
    · cases h
    · split at h
      · cases h
      · split at h
        · cases h; omega
        · cases h
  rw [if_neg hk3] at h
  split at h
  · cases h
  · cases h
    have := signFrom_le s (min 3 s.length)
    have e : signLen s = signFrom (min 3 s.length) s := rfl
    omega

theorem tokN_bad {s : List UInt8} (h1 : 1 ≤ s.length) (h2 : s.length ≤ 65536) {n : Nat} (h : tokN s = .error n) : n ≤ 65536 := by
  unfold tokN at h
  repeat' split at h
  all_goals first
    | (cases h; done)
    | (cases h; omega)
    | (cases h; rename_i i e; have := plainFrom_err _ _ _ _ _ e; simp at this; omega)

theorem Tryz.infoTok : (Tryz.prog.info? 59).map (fun i => (i.zero, i.size, i.bytes)) = some (some (.agg #[.int .u8 0, .int .i64 0, .string ⟨#[]⟩, .float .f64 0]), 4, 40) := by kernel_rfl

set_option maxRecDepth 100000 in
set_option maxHeartbeats 4000000 in
theorem tokens_calls (s : List UInt8) (h2 : s.length ≤ 65536) (w : World) (hg : Ground w) :
    Calls Tryz.prog 19 #[.string ⟨s.toArray⟩] w (PostToks w (tokens s)) := by
  obtain ⟨i0, hi0, hz0, hz1, hz2⟩ := info_parts Tryz.infoTok
  have hbig : ((65536 : Int) < (s.length : Int)) = False := by simp; omega
  generalize htr : tokens s = tr
  go_enter Tryz.func19, Tryz.ntmps19
  go_wp2_with fail
  go_step3
  go_wp2_with fail
  go_step3
  go_wp2_with fail
  go_loopg [5, 6] s.length (fun m u v wr => ∃ (i : Nat) (acc : List Tok) (lv : Value), lv = u ∧ .int .i64 (i : Nat) = v ∧ i ≤ s.length ∧ s.length ≤ i + m ∧ acc.length ≤ 16384 ∧ wr.ownsRow w.heap.size 59 4 lv acc.length (tokRow acc) ∧ Below w.heap.size w wr ∧ lexFrom s.length s 0 [] = lexFrom m (s.drop i) i acc)
  case atStart => exact ⟨0, [], _, rfl, rfl, by omega, by omega, by simp, ⟨by simp [tokRow], .inl ⟨rfl, rfl⟩⟩, Below.refl _ _, rfl⟩
  case round =>
    obtain ⟨i, acc, lv, rfl, rfl, hi, hm, hacc, hown, hbel, hn⟩ := hrel
    have hgr := hg.below hbel hg.pos
    obtain ⟨la, lc, rfl⟩ : ∃ a c, lv = .slice a acc.length c := by
      rcases hown.2 with ⟨e, h0⟩ | ⟨g, cap, cur, e, _⟩
      · exact ⟨none, 0, by rw [e, h0]⟩
      · exact ⟨_, _, e⟩
    have hsz := hbel.size
    by_cases h : i < s.length
    case neg =>
      have hl : ((i : Int) < (s.length : Int)) = False := by simp; omega
      have hr : tr = .ok (acc ++ [⟨0, s.length, [], 0⟩]) := by
        rw [← htr]
        unfold tokens
        rw [hn, List.drop_eq_nil_of_le (by omega)]
        cases gk <;> rfl
      subst hr
      go_wp2_with (at_builtin; refine wpList_append_lies _ rfl _ _ 49 rfl w.heap.size 59 i0 _ 4 40 Tryz.underlying49 hi0 hz0 hz1 hz2 rfl (by decide) _ acc.length (tokRow acc) rfl (World.ownsRow.alloc hown _) ⟨wr.heap.size, 0, none⟩ 1 1 (tokVals ⟨0, s.length, [], 0⟩) rfl rfl ?c1 ?c2 ?c3 ?c4 ?c5 ?c6 (wr.heap.size + 1) ?c7 ?_)
      case c1 => exact World.news_of_block (cs := (tokVals ⟨0, s.length, [], 0⟩).toArray) (t := 59) (fr := (0, 0)) (heap_alloc_new wr _)
      case c2 => simp [tokVals, Value.oneCell']
      case c3 => decide
      case c4 => unfold maxLen; omega
      case c5 => omega
      case c6 => simp; omega
      case c7 => simp
      intro g cap w6 hown' hgrow hat hlt
      have hb6 : Below w.heap.size w w6 := (hbel.alloc hsz _).grown hgrow (by simp; omega) (fun k hk => (hown.lt k hk).1)
      go_wp2_with fail
      simp only [Exit.noGoto]
      go_ret3
      refine ⟨hb6, _, rfl, ?_⟩
      have e1 : tokRow (acc ++ [⟨0, s.length, [], 0⟩]) = tokRow acc ++ tokVals ⟨0, s.length, [], 0⟩ := by simp [tokRow]
      rw [e1, List.length_append]
      exact hown'
    case pos =>
      have hl : ((i : Int) < (s.length : Int)) = True := by simp; omega
      have hd : s.drop i = s[i] :: s.drop (i + 1) := List.drop_eq_getElem_cons h
      obtain ⟨m, rfl⟩ : ∃ m, gk = m + 1 := ⟨gk - 1, by omega⟩
      have hx := bext_end s i
      have hdl : (s.drop i).length = s.length - i := by simp
      have hh : ∀ h, (⟨(s.drop i).toArray⟩ : ByteArray)[0]'h = s[i] := fun h0 => by rw [bget]; simp
      have hhd : (s.drop i).headD 0 = s[i] := by rw [hd]; rfl
      rw [hd] at hn
      simp only [lexFrom] at hn
      rw [← hd] at hn
      have hdd0 : ∀ n, (s.drop i).drop n = s.drop (i + n) := fun n => List.drop_drop
      generalize s.drop i = d at hx hdl hn hd hh hhd hdd0
      generalize s[i] = b at hh hhd hd
      have hne : 0 < d.length := by omega
      have hdle : d.length ≤ 65536 := by omega
      have HDL := hidden hdl
      clear hdl
      have hdd : Hid (∀ n, d.drop n = s.drop (i + n)) := hidden hdd0
      clear hdd0
      have hlx : Hid (lexFrom s.length s 0 [] = match lxN d with
        | .skip n => lexFrom m (d.drop n) (i + n) acc
        | .tok t n => if acc.length = 16384 then .error (i, 4) else lexFrom m (d.drop n) (i + n) (acc ++ [{ t with pos := i }])
        | .bad n => .error (i + n, 5)) := hidden hn
      clear hn hd
      by_cases hbl : isBlank b = true
      · have hq : lxN d = .skip 1 := by unfold lxN; rw [hhd, if_pos hbl]
        have hn2 : lexFrom s.length s 0 [] = lexFrom m (s.drop (i + 1)) (i + 1) acc := by rw [hlx.out, hq, ← hdd.out]
        clear hlx hdd hq hhd
        have hb4 : b.toNat = 9 ∨ b.toNat = 10 ∨ b.toNat = 13 ∨ b.toNat = 32 := by simpa [isBlank, or_assoc] using hbl
        clear hbl
        rcases hb4 with hb4 | hb4 | hb4 | hb4
        all_goals go_wp2_with fail
        all_goals go_roundg m
        all_goals have hdl := HDL.out
        all_goals first
          | omega
          | exact ⟨i + 1, acc, _, rfl, rfl, by omega, by omega, hacc, hown, hbel, hn2⟩
      · have hnb : b.toNat ≠ 9 ∧ b.toNat ≠ 10 ∧ b.toNat ≠ 13 ∧ b.toNat ≠ 32 := by simpa [isBlank, and_assoc] using hbl
        have hpre := Tryz.strings_HasPrefix ⟨d.toArray⟩ ⟨#[47, 47]⟩ wr
        have hpre2 := Tryz.strings_HasPrefix ⟨d.toArray⟩ ⟨#[47, 42]⟩ wr
        rw [show (⟨d.toArray⟩ : ByteArray).data.toList = d from rfl] at hpre hpre2
        rw [show (⟨#[47, 47]⟩ : ByteArray).data.toList = [47, 47] from rfl] at hpre
        rw [show (⟨#[47, 42]⟩ : ByteArray).data.toList = [47, 42] from rfl] at hpre2
        have htk := token_calls d (by omega) (by omega) wr hgr
        obtain ⟨n9, n10, n13, n32⟩ := hnb
        by_cases h47 : b.toNat = 47
        · cases hA : Lib.hasPrefix d [47, 47] with
          | true =>
            rw [hA] at hpre
            have hq : lxN d = .skip (Lib.cut d [10]).1.length := by unfold lxN; rw [hhd, if_neg hbl, if_pos ⟨h47, hA⟩]
            have hn2 := hlx.out
            rw [hq] at hn2
            simp only [hdd.out] at hn2
            have hcl := cut_line d hA
            obtain ⟨mg, hmg⟩ := hgr
            have hct := Tryz.strings_Cut ⟨d.toArray⟩ ⟨#[10]⟩ mg wr (by simp [ByteArray.size]; omega) hmg
            rw [show (⟨d.toArray⟩ : ByteArray).data.toList = d from rfl, show (⟨#[10]⟩ : ByteArray).data.toList = [10] from rfl] at hct
            generalize (Lib.cut d [10]).1 = line at hct hcl hn2
            generalize (Lib.cut d [10]).2.1 = line2 at hct
            generalize (Lib.cut d [10]).2.2 = line3 at hct
            have HL := hidden hct
            have HP := hidden hpre
            clear hct hpre hpre2 htk hlx hdd hq hhd hbl hA
            go_wp2_with (first | (go_at_call 26; refine HP.out.mono ?_; rintro e w' ⟨rfl, rfl⟩) | (go_at_call 27; refine HL.out.mono ?_; rintro e w' ⟨rfl, nq, rfl⟩))
            go_roundg m
            case measure => omega
            case rel =>
              have hdl := HDL.out
              exact ⟨i + line.length, acc, _, rfl, rfl, by omega, by omega, hacc, hown, below_drewN hbel _, hn2⟩
          | false =>
            rw [hA] at hpre
            cases hB : Lib.hasPrefix d [47, 42] with
            | true =>
              rw [hB] at hpre2
              have hbl' : ¬ (b.toNat = 47 ∧ Lib.hasPrefix d [47, 47] = true) := fun e => by rw [hA] at e; simp at e
              have hl2 : 2 ≤ d.length := by
                have := (List.isPrefixOf_iff_prefix.1 hB).length_le
                simpa using this
              have hq : lxN d = if Lib.index (d.drop 2) [42, 47] < 0 then .bad 0 else .skip ((Lib.index (d.drop 2) [42, 47]).toNat + 4) := by
                unfold lxN; rw [hhd, if_neg hbl, if_neg hbl', if_pos ⟨h47, hB⟩]
              have hn2 := hlx.out
              rw [hq] at hn2
              have hroom := index_room (d.drop 2) [42, 47]
              have hge := Lib.index_ge (d.drop 2) [42, 47]
              obtain ⟨mg, hmg⟩ := hgr
              have hct := Tryz.strings_Index ⟨(d.drop 2).toArray⟩ ⟨#[42, 47]⟩ mg wr (by simp [ByteArray.size]; omega) hmg
              rw [show (⟨(d.drop 2).toArray⟩ : ByteArray).data.toList = d.drop 2 from rfl, show (⟨#[42, 47]⟩ : ByteArray).data.toList = [42, 47] from rfl, ← bext_end] at hct
              have hdl2 : (d.drop 2).length = d.length - 2 := by simp
              generalize Lib.index (d.drop 2) [42, 47] = ix at hct hn2 hroom hge
              simp only [hdl2] at hroom
              have HL := hidden hct
              have HP := hidden hpre
              have HP2 := hidden hpre2
              clear hct hpre hpre2 htk hlx hq hhd hbl hA hB hbl' hdl2
              have hl2' : ((2 : Int) ≤ (d.length : Int)) = True := by simp; omega
              by_cases hix : ix < 0
              · rw [if_pos hix] at hn2
                simp only at hn2
                have hr : tr = .error (i, 5) := by rw [← htr]; unfold tokens; rw [hn2]; rfl
                subst hr
                clear hn2 htr hdd
                go_wp2_with (first | (go_at_call 26; first | (refine HP.out.mono ?_; rintro e w' ⟨rfl, rfl⟩) | (refine HP2.out.mono ?_; rintro e w' ⟨rfl, rfl⟩)) | (go_at_call 28; refine HL.out.mono ?_; rintro e w' ⟨rfl, rfl⟩))
                simp only [Exit.noGoto, Exit.inBlock, Exit.then]
                go_ret3
                exact ⟨hbel, rfl⟩
              · rw [if_neg hix] at hn2
                simp only [hdd.out] at hn2
                have hix0 : 0 ≤ ix := by omega
                have hroom' := hroom hix0
                obtain ⟨k, rfl⟩ : ∃ k : Nat, ix = (k : Int) := ⟨ix.toNat, by omega⟩
                simp only [Int.toNat_natCast] at hn2 hroom'
                simp only [List.length_cons, List.length_nil] at hroom'
                clear hroom hge hix hdd
                have hixf : ((k : Int) < 0) = False := by simp
                go_wp2_with (first | (go_at_call 26; first | (refine HP.out.mono ?_; rintro e w' ⟨rfl, rfl⟩) | (refine HP2.out.mono ?_; rintro e w' ⟨rfl, rfl⟩)) | (go_at_call 28; refine HL.out.mono ?_; rintro e w' ⟨rfl, rfl⟩))
                go_roundg m
                case measure => omega
                case rel =>
                  have hdl := HDL.out
                  exact ⟨i + (k + 4), acc, _, rfl, rfl, by omega, by omega, hacc, hown, hbel, hn2⟩
            | false =>
              rw [hB] at hpre2
              have hbl' : ¬ (b.toNat = 47 ∧ Lib.hasPrefix d [47, 47] = true) := fun e => by rw [hA] at e; simp at e
              have hbl2 : ¬ (b.toNat = 47 ∧ Lib.hasPrefix d [47, 42] = true) := fun e => by rw [hB] at e; simp at e
              have HP := hidden hpre
              have HP2 := hidden hpre2
              clear hpre hpre2
              have hq : lxN d = match tokN d with | .error n => .bad n | .ok (t, n) => .tok t n := by unfold lxN; rw [hhd, if_neg hbl, if_neg hbl', if_neg hbl2]
              have hn2 := hlx.out
              rw [hq] at hn2
              clear hlx hq hhd hbl hbl' hbl2
              have hlen := fun t n => tokN_len (s := d) (by omega) (t := t) (n := n)
              have hbad := fun n => tokN_bad (s := d) (by omega) hdle (n := n)
              generalize tokN d = tk at hn2 htk hlen hbad
              unfold PostTok at htk
              have HK := hidden htk
              clear htk
              cases tk with
              | error n =>
                have hnle := hbad n rfl
                have hn3 : lexFrom s.length s 0 [] = .error (i + n, 5) := hn2
                have hr : tr = .error (i + n, 5) := by rw [← htr]; unfold tokens; rw [hn3]
                subst hr
                have hkk := HK.out
                simp only at hkk
                have HK2 := hidden hkk
                clear hkk HK hn2 hn3 htr hdd hlen hbad
                have below1 : ∀ w1, Below wr.heap.size wr w1 → Below w.heap.size w w1 := fun w1 hb1 => hbel.trans ⟨hb1.os, hb1.tape, hb1.output, hb1.size, fun k hk => hb1.block k (Nat.lt_of_lt_of_le hk hsz)⟩
                go_wp2_with (first | (go_at_call 26; first | (refine HP.out.mono ?_; rintro e w' ⟨rfl, rfl⟩) | (refine HP2.out.mono ?_; rintro e w' ⟨rfl, rfl⟩)) | (go_at_call 29; refine HK2.out.mono ?_; rintro e w1 ⟨hb1, ⟨tk, tp, tx, tn⟩, rfl⟩; simp only [tokVals]))
                simp only [Exit.noGoto]
                go_ret3
                exact ⟨(below1 _ hb1).alloc (Nat.le_trans hsz hb1.size) _, rfl⟩
              | ok p =>
                obtain ⟨⟨tk, tp, tx, tn⟩, n⟩ := p
                have hln := hlen _ n rfl
                simp only at hn2
                simp only [hdd.out] at hn2
                have hkk := HK.out
                simp only [tokVals] at hkk
                have HK2 := hidden hkk
                clear hkk HK hdd hlen hbad
                have below1 : ∀ w1, Below wr.heap.size wr w1 → Below w.heap.size w w1 := fun w1 hb1 => hbel.trans ⟨hb1.os, hb1.tape, hb1.output, hb1.size, fun k hk => hb1.block k (Nat.lt_of_lt_of_le hk hsz)⟩
                by_cases hmax : acc.length = 16384
                · rw [if_pos hmax] at hn2
                  have hr : tr = .error (i, 4) := by rw [← htr]; unfold tokens; rw [hn2]
                  subst hr
                  clear htr hn2
                  have hmx : ((acc.length : Int) == 16384) = true := by simp; omega
                  go_wp2_with (first | (go_at_call 26; first | (refine HP.out.mono ?_; rintro e w' ⟨rfl, rfl⟩) | (refine HP2.out.mono ?_; rintro e w' ⟨rfl, rfl⟩)) | (go_at_call 29; refine HK2.out.mono ?_; rintro e w1 ⟨hb1, rfl⟩))
                  simp only [Exit.noGoto]
                  go_ret3
                  exact ⟨(below1 _ hb1).alloc (Nat.le_trans hsz hb1.size) _, rfl⟩
                · rw [if_neg hmax] at hn2
                  have HN2 := hidden hn2
                  clear hn2
                  have hmx : ((acc.length : Int) == 16384) = false := by simp; omega
                  have hown1 : ∀ w1, Below wr.heap.size wr w1 → w1.ownsRow w.heap.size 59 4 (.slice la acc.length lc) acc.length (tokRow acc) := fun w1 hb1 => ownsRow_same hown (fun k e => hb1.block k (hown.lt k e).2)
                  go_wp2_with (first | (go_at_call 26; first | (refine HP.out.mono ?_; rintro e w' ⟨rfl, rfl⟩) | (refine HP2.out.mono ?_; rintro e w' ⟨rfl, rfl⟩)) | (go_at_call 29; refine HK2.out.mono ?_; rintro e w1 ⟨hb1, rfl⟩) | (at_builtin; refine wpList_append_lies _ rfl _ _ 49 rfl w.heap.size 59 i0 _ 4 40 Tryz.underlying49 hi0 hz0 hz1 hz2 rfl (by decide) _ acc.length (tokRow acc) rfl (World.ownsRow.alloc (World.ownsRow.alloc (hown1 _ hb1) _) _) ⟨w1.heap.size + 1, 0, none⟩ 1 1 (tokVals ⟨tk, i, tx, tn⟩) rfl rfl ?c1 ?c2 ?c3 ?c4 ?c5 ?c6 (w1.heap.size + 2) ?c7 ?_))
                  case c1 => exact World.news_of_block (cs := (tokVals ⟨tk, i, tx, tn⟩).toArray) (t := 59) (fr := (0, 0)) (by have := heap_alloc_new (w1.alloc (.cells #[.int .u8 (tk : Nat), .int .i64 (i : Nat), .string ⟨tx.toArray⟩, .float .f64 tn] 59)) (.cells #[.int .u8 (tk : Nat), .int .i64 (i : Nat), .string ⟨tx.toArray⟩, .float .f64 tn] 59); rw [show (w1.alloc (.cells #[.int .u8 (tk : Nat), .int .i64 (i : Nat), .string ⟨tx.toArray⟩, .float .f64 tn] 59)).heap.size = w1.heap.size + 1 from by simp] at this; exact this)
                  case c2 => simp [tokVals, Value.oneCell']
                  case c3 => decide
                  case c4 => unfold maxLen; omega
                  case c5 => omega
                  case c6 => have := hb1.size; simp; omega
                  case c7 => simp
                  intro g cap w6 hown' hgrow hat hlt
                  have hs1 := hb1.size
                  have hb6 : Below w.heap.size w w6 := (((below1 _ hb1).alloc (Nat.le_trans hsz hs1) _).alloc (by simp; omega) _).grown hgrow (by simp; omega) (fun k hk => (hown.lt k hk).1)
                  go_wp2_with fail
                  go_roundg m
                  case measure => omega
                  case rel =>
                    have hdl := HDL.out
                    have e1 : tokRow (acc ++ [⟨tk, i, tx, tn⟩]) = tokRow acc ++ tokVals ⟨tk, i, tx, tn⟩ := by simp [tokRow]
                    exact ⟨i + n, acc ++ [⟨tk, i, tx, tn⟩], _, rfl, rfl, by omega, by omega, by simp; omega, by rw [e1, List.length_append]; exact hown', hb6, HN2.out⟩
        · have hbl' : ¬ (b.toNat = 47 ∧ Lib.hasPrefix d [47, 47] = true) := fun e => h47 e.1
          have hbl2 : ¬ (b.toNat = 47 ∧ Lib.hasPrefix d [47, 42] = true) := fun e => h47 e.1
          clear hpre hpre2
          have hq : lxN d = match tokN d with | .error n => .bad n | .ok (t, n) => .tok t n := by unfold lxN; rw [hhd, if_neg hbl, if_neg hbl', if_neg hbl2]
          have hn2 := hlx.out
          rw [hq] at hn2
          clear hlx hq hhd hbl hbl' hbl2
          have hlen := fun t n => tokN_len (s := d) (by omega) (t := t) (n := n)
          have hbad := fun n => tokN_bad (s := d) (by omega) hdle (n := n)
          generalize tokN d = tk at hn2 htk hlen hbad
          unfold PostTok at htk
          have HK := hidden htk
          clear htk
          cases tk with
          | error n =>
            have hnle := hbad n rfl
            have hn3 : lexFrom s.length s 0 [] = .error (i + n, 5) := hn2
            have hr : tr = .error (i + n, 5) := by rw [← htr]; unfold tokens; rw [hn3]
            subst hr
            have hkk := HK.out
            simp only at hkk
            have HK2 := hidden hkk
            clear hkk HK hn2 hn3 htr hdd hlen hbad
            have below1 : ∀ w1, Below wr.heap.size wr w1 → Below w.heap.size w w1 := fun w1 hb1 => hbel.trans ⟨hb1.os, hb1.tape, hb1.output, hb1.size, fun k hk => hb1.block k (Nat.lt_of_lt_of_le hk hsz)⟩
            go_wp2_with (go_at_call 29; refine HK2.out.mono ?_; rintro e w1 ⟨hb1, ⟨tk, tp, tx, tn⟩, rfl⟩; simp only [tokVals])
            simp only [Exit.noGoto]
            go_ret3
            exact ⟨(below1 _ hb1).alloc (Nat.le_trans hsz hb1.size) _, rfl⟩
          | ok p =>
            obtain ⟨⟨tk, tp, tx, tn⟩, n⟩ := p
            have hln := hlen _ n rfl
            simp only at hn2
            simp only [hdd.out] at hn2
            have hkk := HK.out
            simp only [tokVals] at hkk
            have HK2 := hidden hkk
            clear hkk HK hdd hlen hbad
            have below1 : ∀ w1, Below wr.heap.size wr w1 → Below w.heap.size w w1 := fun w1 hb1 => hbel.trans ⟨hb1.os, hb1.tape, hb1.output, hb1.size, fun k hk => hb1.block k (Nat.lt_of_lt_of_le hk hsz)⟩
            by_cases hmax : acc.length = 16384
            · rw [if_pos hmax] at hn2
              have hr : tr = .error (i, 4) := by rw [← htr]; unfold tokens; rw [hn2]
              subst hr
              clear htr hn2
              have hmx : ((acc.length : Int) == 16384) = true := by simp; omega
              go_wp2_with (go_at_call 29; refine HK2.out.mono ?_; rintro e w1 ⟨hb1, rfl⟩)
              simp only [Exit.noGoto]
              go_ret3
              exact ⟨(below1 _ hb1).alloc (Nat.le_trans hsz hb1.size) _, rfl⟩
            · rw [if_neg hmax] at hn2
              have HN2 := hidden hn2
              clear hn2
              have hmx : ((acc.length : Int) == 16384) = false := by simp; omega
              have hown1 : ∀ w1, Below wr.heap.size wr w1 → w1.ownsRow w.heap.size 59 4 (.slice la acc.length lc) acc.length (tokRow acc) := fun w1 hb1 => ownsRow_same hown (fun k e => hb1.block k (hown.lt k e).2)
              go_wp2_with (first | (go_at_call 29; refine HK2.out.mono ?_; rintro e w1 ⟨hb1, rfl⟩) | (at_builtin; refine wpList_append_lies _ rfl _ _ 49 rfl w.heap.size 59 i0 _ 4 40 Tryz.underlying49 hi0 hz0 hz1 hz2 rfl (by decide) _ acc.length (tokRow acc) rfl (World.ownsRow.alloc (World.ownsRow.alloc (hown1 _ hb1) _) _) ⟨w1.heap.size + 1, 0, none⟩ 1 1 (tokVals ⟨tk, i, tx, tn⟩) rfl rfl ?c1 ?c2 ?c3 ?c4 ?c5 ?c6 (w1.heap.size + 2) ?c7 ?_))
              case c1 => exact World.news_of_block (cs := (tokVals ⟨tk, i, tx, tn⟩).toArray) (t := 59) (fr := (0, 0)) (by have := heap_alloc_new (w1.alloc (.cells #[.int .u8 (tk : Nat), .int .i64 (i : Nat), .string ⟨tx.toArray⟩, .float .f64 tn] 59)) (.cells #[.int .u8 (tk : Nat), .int .i64 (i : Nat), .string ⟨tx.toArray⟩, .float .f64 tn] 59); rw [show (w1.alloc (.cells #[.int .u8 (tk : Nat), .int .i64 (i : Nat), .string ⟨tx.toArray⟩, .float .f64 tn] 59)).heap.size = w1.heap.size + 1 from by simp] at this; exact this)
              case c2 => simp [tokVals, Value.oneCell']
              case c3 => decide
              case c4 => unfold maxLen; omega
              case c5 => omega
              case c6 => have := hb1.size; simp; omega
              case c7 => simp
              intro g cap w6 hown' hgrow hat hlt
              have hs1 := hb1.size
              have hb6 : Below w.heap.size w w6 := (((below1 _ hb1).alloc (Nat.le_trans hsz hs1) _).alloc (by simp; omega) _).grown hgrow (by simp; omega) (fun k hk => (hown.lt k hk).1)
              go_wp2_with fail
              go_roundg m
              case measure => omega
              case rel =>
                have hdl := HDL.out
                have e1 : tokRow (acc ++ [⟨tk, i, tx, tn⟩]) = tokRow acc ++ tokVals ⟨tk, i, tx, tn⟩ := by simp [tokRow]
                exact ⟨i + n, acc ++ [⟨tk, i, tx, tn⟩], _, rfl, rfl, by omega, by omega, by simp; omega, by rw [e1, List.length_append]; exact hown', hb6, HN2.out⟩

end Go.Proofs.YtgdamcmfdhhheaaGreatDoor
