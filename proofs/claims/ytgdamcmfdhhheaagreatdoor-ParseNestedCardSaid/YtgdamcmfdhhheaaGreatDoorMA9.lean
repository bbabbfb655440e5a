/- What stands behind a value, walked. -/
import Derived.Test.YtgdamcmfdhhheaaGreatDoorMA7
import Derived.Deep.LoopGhost
import Derived.Deep.RegionHeld2
import Derived.Deep.RegionWith
import Derived.Deep.AppendLies
set_option linter.all false

namespace Go.Proofs.YtgdamcmfdhhheaaGreatDoor
open Go.RowKit Bf

set_option maxRecDepth 100000 in
set_option maxHeartbeats 20000000 in
theorem postfix_true (n : Nat) (ih : All n) : CallN 152 [.bool true] (fun lv => .postfix_ lv true) (n + 1) := by
  intro c w s R lv h hr hlv hle hne
  change Calls _ _ #[.pointer (some ⟨c.bp, 0, none⟩), .bool true] w (PostN c w s (postfixB (pRun n) lv true R))
  have HN : Hid (postfixB (pRun n) lv true R ≠ .out) := hne
  have HL : Hid (s.lv = (lv : Int)) := hlv
  clear hne hlv
  have m0 := Mid.start h hr
  clear hr
  obtain ⟨i0, hi0, hz0, hz1, hz2⟩ := info_parts Tryz.infoInt
  have hmf : ∀ (fn : Fn) (first cap : Array Value) (w : World), (Instr.makeFunc fn first cap).run Tryz.prog w = .ok (.func fn first cap) w := fun _ _ _ _ => rfl
  go_enter Tryz.func152, Tryz.ntmps152
  have h0 := m0.ps.c0
  have h1 := m0.ps.c1
  have hbp := m0.ps.bp_lt
  have hbl := m0.ps.bl_lt
  have hi := m0.ps.i
  have hlen := m0.ps.len
  have t0 := m0.ps.t0 m0.rem
  have t1 := m0.ps.t1 m0.rem
  have t2 := m0.ps.t2 m0.rem
  have t3 := m0.ps.t3 m0.rem
  go_wp2
  go_region
  clear h0 h1 hbp hbl hi hlen t0 t1 t2 t3
  obtain ⟨m2, g1⟩ := m0.held
  clear m0
  change Mid c w s ((w.alloc (.cells #[.int .u8 (hd R).kind, .int .i64 (hd R).pos, .string ⟨(hd R).text.toArray⟩, .float .f64 (hd R).num] 59)).drew) _ _ _ _ _ at m2
  change Held c ((w.alloc (.cells #[.int .u8 (hd R).kind, .int .i64 (hd R).pos, .string ⟨(hd R).text.toArray⟩, .float .f64 (hd R).num] 59)).drew) _ _ _ at g1
  generalize ((w.alloc (.cells #[.int .u8 (hd R).kind, .int .i64 (hd R).pos, .string ⟨(hd R).text.toArray⟩, .float .f64 (hd R).num] 59)).drew) = w3 at m2 g1 ⊢
  have zt0 := g1.c0
  have zt1 := g1.c1
  have zt2 := g1.c2
  have zt3 := g1.c3
  have ztb : ¬ w.heap.size = c.bp := fun e => g1.free (.inl e)
  have ztc : ¬ c.bp = w.heap.size := fun e => g1.free (.inl e.symm)
  have ztl := g1.lt
  go_wp2_with fail
  clear zt0 zt1 zt2 zt3 ztb ztc ztl
  refine (is_calls m2.ps m2.rem [110, 101, 119]).mono ?_
  rintro e w5 ⟨rfl, hb⟩
  have g1' := g1.below hb
  have m6 := m2.below hb
  clear m2
  have g7 := g1'
  clear g1' g1
  clear hb
  by_cases hq4 : isTok (hd R) [110, 101, 119] = true
  · skip
    have zt0 := g7.c0
    have zt1 := g7.c1
    have zt2 := g7.c2
    have zt3 := g7.c3
    have ztb : ¬ w.heap.size = c.bp := fun e => g7.free (.inl e)
    have ztc : ¬ c.bp = w.heap.size := fun e => g7.free (.inl e.symm)
    have ztl := g7.lt
    go_wp2_with fail
    clear zt0 zt1 zt2 zt3 ztb ztc ztl
    by_cases h200 : 200 < lv + 1
    · refine (deeper_no m6.ps m6.rem (m6.lv HL.out) h200 (by omega)).mono ?_
      rintro e wz post
      have hb2 := Bad.trans m6.fr post
      obtain ⟨rfl, _⟩ := post
      exact ⟨rfl, PostN.bad hb2 (by simp [postfixB, Res.bind, fail, ok1, need, hq4, h200, fail])⟩
    have hleD : lv + 1 ≤ 200 := by omega
    refine (deeper_ok m6.ps (m6.lv HL.out) h200).mono ?_
    rintro e wD ⟨rfl, hp, hf0, hbx, hsz⟩
    have ubD : Box c wD (s.at_ ((lv : Int) + 1)) w5.heap.size := Fr.box m6.ps hf0 hbx (fun _ h => h)
    have mD := Mid.start hp m6.rem
    have HLD : Hid ((s.at_ ((lv : Int) + 1)).lv = ((lv + 1 : Nat) : Int)) := hidden (by simp [St.at_])
    have hroomD : (s.at_ ((lv : Int) + 1)).ns.length ≤ (s.at_ ((lv : Int) + 1)).i + 1 := h.room
    have hf := m6.fr.trans hf0
    have hfF : FrB c w s wD (s.at_ ((lv : Int) + 1)) := ⟨hf⟩
    have gtD := g7.fr hf0
    clear hp hbx hsz hf0 m6 g7
    generalize w5.heap.size = BX at ubD ⊢
    have zt0 := gtD.c0
    have zt1 := gtD.c1
    have zt2 := gtD.c2
    have zt3 := gtD.c3
    have ztb : ¬ w.heap.size = c.bp := fun e => gtD.free (.inl e)
    have ztc : ¬ c.bp = w.heap.size := fun e => gtD.free (.inl e.symm)
    have ztl := gtD.lt
    have hmore := mD.ps.more mD.rem (by intro e; simp [isTok, e] at hq4)
    have h1 := mD.ps.c1
    have fz1 := mD.ps.fz 1
    have hlen := mD.ps.len
    have hnx := mD.ps.next hmore
    have m8 := mD.next hnx.1 hnx.2
    have gtD' := gtD.fr hnx.2
    have ubD' := ubD.fr hnx.2
    have g9 := gtD'
    clear gtD' gtD
    have u10 := ubD'
    clear ubD' ubD
    go_wp2_with fail
    clear h1 fz1 hlen hnx hmore zt0 zt1 zt2 zt3 ztb ztc ztl mD
    generalize (wD.setCell ⟨c.bp, 1, none⟩ (.int .i64 ((((s.at_ ((lv : Int) + 1))).i : Int) + 1))) = w11 at m8 g9 u10 ⊢
    have HChc12 : Hid (pRun n (.postfix_ (lv + 1) false) R.tail ≠ .out) := fun e => HN.out (by simp [postfixB, Res.bind, fail, ok1, need, hq4, h200, e])
    refine (ih.postfix_ false _ _ _ _ _ m8.ps m8.rem (m8.lv HLD.out) hleD HChc12.out).mono ?_
    rintro e w13 hpost
    rcases hc12 : pRun n (.postfix_ (lv + 1) false) R.tail with ⟨tshc12, Rhc12⟩ | ⟨en, p⟩ | _
    rotate_left
    · rw [hc12] at hpost
      have hb2 := Bad.trans hfF.fr (Bad.trans m8.fr hpost)
      obtain ⟨rfl, _⟩ := hpost
      exact ⟨rfl, PostN.bad hb2 (by simp [postfixB, Res.bind, fail, ok1, need, hq4, h200, hc12])⟩
    · exact absurd hc12 HChc12.out
    rw [hc12] at hpost
    obtain ⟨shc12, khc12, thc12, rfl, rfl, mm⟩ := hpost
    have m14 := m8.call mm
    have g9' := g9.fr mm.fr
    have u10' := u10.fr mm.fr
    have g15 := g9'
    clear g9' g9
    have u16 := u10'
    clear u10' u10
    have Hhc12 := hidden hc12
    clear mm m8 hc12 HChc12
    have zt0 := g15.c0
    have zt1 := g15.c1
    have zt2 := g15.c2
    have zt3 := g15.c3
    have ztb : ¬ w.heap.size = c.bp := fun e => g15.free (.inl e)
    have ztc : ¬ c.bp = w.heap.size := fun e => g15.free (.inl e.symm)
    have ztl := g15.lt
    go_wp2_with fail
    clear zt0 zt1 zt2 zt3 ztb ztc ztl
    have nb18 : (Value.slice (some ⟨w13.heap.size, 0, none⟩) 1 1).ownBlock ≠ some w.heap.size := by have : w.heap.size < w13.heap.size := g15.lt; simp [Value.ownBlock]; omega
    have nb19 : (Value.slice (some ⟨w13.heap.size, 0, none⟩) 1 1).ownBlock ≠ some BX := by have : BX < w13.heap.size := u16.lt; simp [Value.ownBlock]; omega
    have l17 : Lst c wD (w13.alloc (.cells #[.int .i64 khc12] 3)) _ (.slice (some ⟨w13.heap.size, 0, none⟩) 1 1) [khc12] := Lst.made m14 [khc12] (by simp)
    have g15' := g15.below ((Below.refl _ _).alloc (Nat.le_refl _) (.cells #[.int .i64 khc12] 3))
    have u16' := u16.below ((Below.refl _ _).alloc (Nat.le_refl _) (.cells #[.int .i64 khc12] 3))
    have m20 := m14.below ((Below.refl _ _).alloc (Nat.le_refl _) (.cells #[.int .i64 khc12] 3))
    clear m14
    have g21 := g15'
    clear g15' g15
    have u22 := u16'
    clear u16' u16
    generalize w13.alloc (.cells #[.int .i64 khc12] 3) = w23 at m20 l17 g21 u22 ⊢
    have zt0 := g21.c0
    have zt1 := g21.c1
    have zt2 := g21.c2
    have zt3 := g21.c3
    have ztb : ¬ w.heap.size = c.bp := fun e => g21.free (.inl e)
    have ztc : ¬ c.bp = w.heap.size := fun e => g21.free (.inl e.symm)
    have ztl := g21.lt
    go_wp2_with fail
    clear zt0 zt1 zt2 zt3 ztb ztc ztl
    refine (up_calls m20.ps BX u22.cell (lv := lv) (by rw [m20.lv HLD.out]; push_cast; rfl) (by omega)).mono ?_
    rintro e we ⟨rfl, hp, hfe⟩
    rw [← HL.out] at hp hfe
    have mE := Mid.down hf m20 hp hfe
    have lE := (Lst.base (w := w) l17 hf.size).fr hfe
    have gE := g21.fr hfe
    clear hp hfe hf m20 l17 g21 u22
    have zt0 := gE.c0
    have zt1 := gE.c1
    have zt2 := gE.c2
    have zt3 := gE.c3
    have ztb : ¬ w.heap.size = c.bp := fun e => gE.free (.inl e)
    have ztc : ¬ c.bp = w.heap.size := fun e => gE.free (.inl e.symm)
    have ztl := gE.lt
    go_wp2_with fail
    clear zt0 zt1 zt2 zt3 ztb ztc ztl
    by_cases hx24 : isTok (hd Rhc12) [40] = true
    rotate_left
    · refine (need_no mE.ps mE.rem [40] (by simpa using hx24)).mono ?_
      rintro e wz hbad
      have hb2 := Bad.trans mE.fr hbad
      obtain ⟨rfl, _⟩ := hbad
      exact ⟨rfl, PostN.bad hb2 (by simp [postfixB, Res.bind, fail, ok1, need, hq4, h200, Hhc12.out, hx24])⟩
    refine (need_yes mE.ps mE.rem [40] hx24).mono ?_
    rintro e w25 ⟨rfl, hp, hf⟩
    have m26 := mE.next hp hf
    have lE' := lE.fr hf
    have gE' := gE.fr hf
    have l27 := lE'
    clear lE' lE
    have g28 := gE'
    clear gE' gE
    clear hp hf mE
    have zt0 := g28.c0
    have zt1 := g28.c1
    have zt2 := g28.c2
    have zt3 := g28.c3
    have ztb : ¬ w.heap.size = c.bp := fun e => g28.free (.inl e)
    have ztc : ¬ c.bp = w.heap.size := fun e => g28.free (.inl e.symm)
    have ztl := g28.lt
    go_wp2_with fail
    clear zt0 zt1 zt2 zt3 ztb ztc ztl
    have l27' := l27.below ((Below.refl _ _).drew)
    have g28' := g28.below ((Below.refl _ _).drew)
    have m29 := m26.below ((Below.refl _ _).drew)
    clear m26
    have l30 := l27'
    clear l27' l27
    have g31 := g28'
    clear g28' g28
    have q32 := g31.c1
    have q33 := g31.lt
    go_region_held2 (fun w' => w'.cell? ⟨w.heap.size, 1, none⟩ = some (.int .i64 (hd R).pos))
      (first | assumption | go_keep)
      (first
        | (go_at_call 125
           have HChc34 : Hid (pRun n (.list lv [41] 64 .assign 0) Rhc12.tail ≠ .out) := fun e => HN.out (by simp [postfixB, Res.bind, fail, ok1, need, hq4, h200, Hhc12.out, hx24, e])
           refine (list_assign n ih m29.ps m29.rem (m29.lv HL.out) hle [41] 64 (by decide) 0 HChc34.out (fun e => nomatch e)).mono ?_
           rintro e w35 hpost
           rcases hc34 : pRun n (.list lv [41] 64 .assign 0) Rhc12.tail with ⟨tshc34, Rhc34⟩ | ⟨en, p⟩ | _
           rotate_left
           · rw [hc34] at hpost
             have hb2 := Bad.trans m29.fr hpost
             obtain ⟨rfl, _⟩ := hpost
             exact ⟨rfl, PostN.bad hb2 (by simp [postfixB, Res.bind, fail, ok1, need, hq4, h200, Hhc12.out, hx24, hc34])⟩
           · exact absurd hc34 HChc34.out
           rw [hc34] at hpost
           obtain ⟨shc34, vhc34, khc34, rfl, mm, l36⟩ := hpost
           have m37 := m29.call mm
           have lt38 := g31.lt
           have l30' := l30.fr mm.fr
           have g31' := g31.fr mm.fr
           have l39 := l30'
           clear l30' l30
           have g40 := g31'
           clear g31' g31
           have nb41 : vhc34.ownBlock ≠ some w.heap.size := fun e => by have h1 := (l36.new _ e).2.1; have h2 := lt38; omega
           have l42 := l36.older m29.fr.size
           clear l36
           have Hhc34 := hidden hc34
           clear mm m29 hc34 HChc34
           clear q32
           clear q33
           have q43 := g40.c1
           have q44 := g40.lt)
        | (go_at_call 57
           refine (node_mid m48 l49 h.room 37 (hd R).pos []).mono ?_
           rintro e w54 ⟨s56, k55, rfl, m57, hp⟩
           have g51' := g51.kept hp nb50
           clear hp m48
           have g58 := g51'
           clear g51' g51
           clear q52
           clear q53
           have q59 := g58.c1
           have q60 := g58.lt)
        | (skip
           have hbase := m37.ps.bp_lt
           have hkl := m37.kids_le
           have l0 : Lst c w w35 (shc34) (.slice (some ⟨w13.heap.size, 0, none⟩) 1 1) [khc12] := l39
           have l9 : Lst c w w35 (shc34) vhc34 khc34 := l42
           refine step_append_spread (by rfl) _ _ _ (by rfl) (c.bp + 1) (c.bp + 1) 3 i0 _ 8 Tryz.underlying30 hi0 hz0 hz1 hz2 rfl (.slice (some ⟨w13.heap.size, 0, none⟩) 1 1) ([khc12]).length (ints [khc12]) (by rfl) l0.row (by simp) vhc34 (khc34).length (ints khc34) (by rfl) l9.row (ints_one _) (by unfold maxLen; first | omega | (simp at hkl ⊢; done) | (simp at hkl ⊢; omega)) (by first | omega | (simp at hkl ⊢; done) | (simp at hkl ⊢; omega)) (by omega) w35.heap.size rfl ?_
           intro g45 cap46 w47 hown hgrow hat
           have nb50 : (Value.slice (some ⟨g45, 0, none⟩) (([khc12]).length + (khc34).length) cap46).ownBlock ≠ some w.heap.size := by
             intro e
             have e' : g45 = w.heap.size := by simpa [Value.ownBlock] using e
             rcases hat with h1 | h1
             · exact nb18 (h1.trans (by rw [e']))
             · have := g40.lt; omega
           have g40' := g40.grown hgrow nb18
           obtain ⟨m48, l49⟩ := Mid.spread m37 l0 hgrow hown (hat.imp id (by omega))
           clear hown hgrow hat hbase hkl l0 l9 m37
           have g51 := g40'
           clear g40' g40
           clear q43
           clear q44
           have q52 := g51.c1
           have q53 := g51.lt))
    clear q59
    clear q60
    have HB : PostAt n lv true (hd R).pos (postfixB (pRun n) lv true R) n (.node 37 (hd R).pos [] 0 (thc12 :: tshc34)) Rhc34 := ⟨Nat.le_refl _, by simp [postfixB, Res.bind, fail, ok1, need, hq4, h200, Hhc12.out, hx24, Hhc34.out]⟩
    have zt0 := g58.c0
    have zt1 := g58.c1
    have zt2 := g58.c2
    have zt3 := g58.c3
    have ztb : ¬ w.heap.size = c.bp := fun e => g58.free (.inl e)
    have ztc : ¬ c.bp = w.heap.size := fun e => g58.free (.inl e.symm)
    have ztl := g58.lt
    go_wp2_with fail
    clear zt0 zt1 zt2 zt3 ztb ztc ztl
    go_loopg [6] n (fun m u wr => ∃ (kk : Nat), ∃ si Ri t d, .int .i64 kk = u ∧ Mid c w s wr si Ri [t] [kk] d ∧ Held c wr si w.heap.size (hd R) ∧ PostAt n lv true (hd R).pos (postfixB (pRun n) lv true R) m t Ri)
    case atStart => exact ⟨_, _, _, _, _, rfl, m57, g58, HB⟩
    case round =>
      obtain ⟨kk, si, Ri, t, d, rfl, mr, gt, HR⟩ := hrel
      clear m57 g58 HB
      obtain ⟨m, rfl⟩ := HR.pos HN.out
      have zt0 := gt.c0
      have zt1 := gt.c1
      have zt2 := gt.c2
      have zt3 := gt.c3
      have ztb : ¬ w.heap.size = c.bp := fun e => gt.free (.inl e)
      have ztc : ¬ c.bp = w.heap.size := fun e => gt.free (.inl e.symm)
      have ztl := gt.lt
      go_wp2_with fail
      clear zt0 zt1 zt2 zt3 ztb ztc ztl
      by_cases hq61 : isTok (hd Ri) [46] = true
      · refine (take_yes mr.ps mr.rem [46] hq61).mono ?_
        rintro e w62 ⟨rfl, hp, hf⟩
        have m63 := mr.next hp hf
        have gt' := gt.fr hf
        have g64 := gt'
        clear gt' gt
        clear hp hf mr
        have zt0 := g64.c0
        have zt1 := g64.c1
        have zt2 := g64.c2
        have zt3 := g64.c3
        have ztb : ¬ w.heap.size = c.bp := fun e => g64.free (.inl e)
        have ztc : ¬ c.bp = w.heap.size := fun e => g64.free (.inl e.symm)
        have ztl := g64.lt
        go_wp2_with fail
        clear zt0 zt1 zt2 zt3 ztb ztc ztl
        have h0 := m63.ps.c0
        have h1 := m63.ps.c1
        have hbp := m63.ps.bp_lt
        have hbl := m63.ps.bl_lt
        have hi := m63.ps.i
        have hlen := m63.ps.len
        have t0 := m63.ps.t0 m63.rem
        have t1 := m63.ps.t1 m63.rem
        have t2 := m63.ps.t2 m63.rem
        have t3 := m63.ps.t3 m63.rem
        go_wp2
        go_region
        clear h0 h1 hbp hbl hi hlen t0 t1 t2 t3
        have g64' := g64.below (((Below.refl _ _).alloc (Nat.le_refl _) (.cells #[.int .u8 (hd Ri.tail).kind, .int .i64 (hd Ri.tail).pos, .string ⟨(hd Ri.tail).text.toArray⟩, .float .f64 (hd Ri.tail).num] 59)).drew)
        obtain ⟨m66, g65⟩ := m63.held
        clear m63
        change Mid c w s ((w62.alloc (.cells #[.int .u8 (hd Ri.tail).kind, .int .i64 (hd Ri.tail).pos, .string ⟨(hd Ri.tail).text.toArray⟩, .float .f64 (hd Ri.tail).num] 59)).drew) _ _ _ _ _ at m66
        change Held c ((w62.alloc (.cells #[.int .u8 (hd Ri.tail).kind, .int .i64 (hd Ri.tail).pos, .string ⟨(hd Ri.tail).text.toArray⟩, .float .f64 (hd Ri.tail).num] 59)).drew) _ _ _ at g65
        generalize ((w62.alloc (.cells #[.int .u8 (hd Ri.tail).kind, .int .i64 (hd Ri.tail).pos, .string ⟨(hd Ri.tail).text.toArray⟩, .float .f64 (hd Ri.tail).num] 59)).drew) = w67 at m66 g65 g64' ⊢
        have g68 := g64'
        clear g64' g64
        by_cases hk69 : ((hd Ri.tail).kind == 1) = true
        · have hk69a : (((hd Ri.tail).kind : Int) == 1) = true := by rw [← hk69]; exact beqK _ 1
          have hk69b : ((hd Ri.tail).kind : Int) = 1 := by simp at hk69; omega
          have hk69c : (((hd Ri.tail).kind : Int) != 1) = false := by simp only [bne, hk69a]; rfl
          have HR2 := HR.dot hq61 (.inl hk69)
          clear HR
          have zt0 := g68.c0
          have zt1 := g68.c1
          have zt2 := g68.c2
          have zt3 := g68.c3
          have ztb : ¬ w.heap.size = c.bp := fun e => g68.free (.inl e)
          have ztc : ¬ c.bp = w.heap.size := fun e => g68.free (.inl e.symm)
          have ztl := g68.lt
          have zw0 := g65.c0
          have zw1 := g65.c1
          have zw2 := g65.c2
          have zw3 := g65.c3
          have zwb : ¬ w62.heap.size = c.bp := fun e => g65.free (.inl e)
          have zwc : ¬ c.bp = w62.heap.size := fun e => g65.free (.inl e.symm)
          have zwl := g65.lt
          have hmore := m66.ps.more m66.rem (by simp at hk69; omega)
          have h1 := m66.ps.c1
          have fz1 := m66.ps.fz 1
          have hlen := m66.ps.len
          have hnx := m66.ps.next hmore
          have m70 := m66.next hnx.1 hnx.2
          have g68' := g68.fr hnx.2
          have g65' := g65.fr hnx.2
          have g71 := g68'
          clear g68' g68
          have g72 := g65'
          clear g65' g65
          go_wp2_with fail
          clear h1 fz1 hlen hnx hmore zt0 zt1 zt2 zt3 ztb ztc ztl zw0 zw1 zw2 zw3 zwb zwc zwl m66
          have hszz : w67.heap.size = (w67.setCell ⟨c.bp, 1, none⟩ (.int .i64 ((((si).next).i : Int) + 1))).heap.size := by simp [World.setCell]
          generalize (w67.setCell ⟨c.bp, 1, none⟩ (.int .i64 ((((si).next).i : Int) + 1))) = w73 at hszz m70 g71 g72 ⊢
          rw [hszz]
          clear hszz
          have nb75 : (Value.slice (some ⟨w73.heap.size, 0, none⟩) 1 1).ownBlock ≠ some w.heap.size := by have : w.heap.size < w73.heap.size := g71.lt; simp [Value.ownBlock]; omega
          have nb76 : (Value.slice (some ⟨w73.heap.size, 0, none⟩) 1 1).ownBlock ≠ some w62.heap.size := by have : w62.heap.size < w73.heap.size := g72.lt; simp [Value.ownBlock]; omega
          have l74 : Lst c w (w73.alloc (.cells #[.int .i64 kk] 3)) _ (.slice (some ⟨w73.heap.size, 0, none⟩) 1 1) [kk] := Lst.made m70 [kk] (by simp)
          have g71' := g71.below ((Below.refl _ _).alloc (Nat.le_refl _) (.cells #[.int .i64 kk] 3))
          have g72' := g72.below ((Below.refl _ _).alloc (Nat.le_refl _) (.cells #[.int .i64 kk] 3))
          have m77 := m70.below ((Below.refl _ _).alloc (Nat.le_refl _) (.cells #[.int .i64 kk] 3))
          clear m70
          have g78 := g71'
          clear g71' g71
          have g79 := g72'
          clear g72' g72
          generalize w73.alloc (.cells #[.int .i64 kk] 3) = w80 at m77 l74 g78 g79 ⊢
          refine (node_mid m77 l74 h.room 34 (hd R).pos (hd Ri.tail).text).mono ?_
          rintro e w81 ⟨s83, k82, rfl, m84, hp⟩
          have g78' := g78.kept hp nb75
          have g79' := g79.kept hp nb76
          clear hp m77
          have g85 := g78'
          clear g78' g78
          have g86 := g79'
          clear g79' g79
          have zt0 := g85.c0
          have zt1 := g85.c1
          have zt2 := g85.c2
          have zt3 := g85.c3
          have ztb : ¬ w.heap.size = c.bp := fun e => g85.free (.inl e)
          have ztc : ¬ c.bp = w.heap.size := fun e => g85.free (.inl e.symm)
          have ztl := g85.lt
          go_wp2_with fail
          clear zt0 zt1 zt2 zt3 ztb ztc ztl
          go_roundg m
          case measure => omega
          case rel => exact ⟨_, _, _, _, _, rfl, m84, g85, HR2⟩
        · have hk69n : ((hd Ri.tail).kind == 1) = false := by simpa using hk69
          have hk69a : (((hd Ri.tail).kind : Int) == 1) = false := by rw [← hk69n]; exact beqK _ 1
          have hk69b : ¬ ((hd Ri.tail).kind : Int) = 1 := by simp at hk69; omega
          clear hk69
          have hk69c : (((hd Ri.tail).kind : Int) != 1) = true := by simp only [bne, hk69a]; rfl
          by_cases hk87 : ((hd Ri.tail).kind == 2) = true
          · have hk87a : (((hd Ri.tail).kind : Int) == 2) = true := by rw [← hk87]; exact beqK _ 2
            have hk87b : ((hd Ri.tail).kind : Int) = 2 := by simp at hk87; omega
            have hk87c : (((hd Ri.tail).kind : Int) != 2) = false := by simp only [bne, hk87a]; rfl
            have HR2 := HR.dot hq61 (.inr hk87)
            clear HR
            have zt0 := g68.c0
            have zt1 := g68.c1
            have zt2 := g68.c2
            have zt3 := g68.c3
            have ztb : ¬ w.heap.size = c.bp := fun e => g68.free (.inl e)
            have ztc : ¬ c.bp = w.heap.size := fun e => g68.free (.inl e.symm)
            have ztl := g68.lt
            have zw0 := g65.c0
            have zw1 := g65.c1
            have zw2 := g65.c2
            have zw3 := g65.c3
            have zwb : ¬ w62.heap.size = c.bp := fun e => g65.free (.inl e)
            have zwc : ¬ c.bp = w62.heap.size := fun e => g65.free (.inl e.symm)
            have zwl := g65.lt
            have hmore := m66.ps.more m66.rem (by simp at hk87; omega)
            have h1 := m66.ps.c1
            have fz1 := m66.ps.fz 1
            have hlen := m66.ps.len
            have hnx := m66.ps.next hmore
            have m88 := m66.next hnx.1 hnx.2
            have g68' := g68.fr hnx.2
            have g65' := g65.fr hnx.2
            have g89 := g68'
            clear g68' g68
            have g90 := g65'
            clear g65' g65
            go_wp2_with fail
            clear h1 fz1 hlen hnx hmore zt0 zt1 zt2 zt3 ztb ztc ztl zw0 zw1 zw2 zw3 zwb zwc zwl m66
            have hszz : w67.heap.size = (w67.setCell ⟨c.bp, 1, none⟩ (.int .i64 ((((si).next).i : Int) + 1))).heap.size := by simp [World.setCell]
            generalize (w67.setCell ⟨c.bp, 1, none⟩ (.int .i64 ((((si).next).i : Int) + 1))) = w91 at hszz m88 g89 g90 ⊢
            rw [hszz]
            clear hszz
            have nb93 : (Value.slice (some ⟨w91.heap.size, 0, none⟩) 1 1).ownBlock ≠ some w.heap.size := by have : w.heap.size < w91.heap.size := g89.lt; simp [Value.ownBlock]; omega
            have nb94 : (Value.slice (some ⟨w91.heap.size, 0, none⟩) 1 1).ownBlock ≠ some w62.heap.size := by have : w62.heap.size < w91.heap.size := g90.lt; simp [Value.ownBlock]; omega
            have l92 : Lst c w (w91.alloc (.cells #[.int .i64 kk] 3)) _ (.slice (some ⟨w91.heap.size, 0, none⟩) 1 1) [kk] := Lst.made m88 [kk] (by simp)
            have g89' := g89.below ((Below.refl _ _).alloc (Nat.le_refl _) (.cells #[.int .i64 kk] 3))
            have g90' := g90.below ((Below.refl _ _).alloc (Nat.le_refl _) (.cells #[.int .i64 kk] 3))
            have m95 := m88.below ((Below.refl _ _).alloc (Nat.le_refl _) (.cells #[.int .i64 kk] 3))
            clear m88
            have g96 := g89'
            clear g89' g89
            have g97 := g90'
            clear g90' g90
            generalize w91.alloc (.cells #[.int .i64 kk] 3) = w98 at m95 l92 g96 g97 ⊢
            refine (node_mid m95 l92 h.room 34 (hd R).pos (hd Ri.tail).text).mono ?_
            rintro e w99 ⟨s101, k100, rfl, m102, hp⟩
            have g96' := g96.kept hp nb93
            have g97' := g97.kept hp nb94
            clear hp m95
            have g103 := g96'
            clear g96' g96
            have g104 := g97'
            clear g97' g97
            have zt0 := g103.c0
            have zt1 := g103.c1
            have zt2 := g103.c2
            have zt3 := g103.c3
            have ztb : ¬ w.heap.size = c.bp := fun e => g103.free (.inl e)
            have ztc : ¬ c.bp = w.heap.size := fun e => g103.free (.inl e.symm)
            have ztl := g103.lt
            go_wp2_with fail
            clear zt0 zt1 zt2 zt3 ztb ztc ztl
            go_roundg m
            case measure => omega
            case rel => exact ⟨_, _, _, _, _, rfl, m102, g103, HR2⟩
          · have hk87n : ((hd Ri.tail).kind == 2) = false := by simpa using hk87
            have hk87a : (((hd Ri.tail).kind : Int) == 2) = false := by rw [← hk87n]; exact beqK _ 2
            have hk87b : ¬ ((hd Ri.tail).kind : Int) = 2 := by simp at hk87; omega
            clear hk87
            have hk87c : (((hd Ri.tail).kind : Int) != 2) = true := by simp only [bne, hk87a]; rfl
            have HE := hidden (HR.dotBad hq61 hk69n hk87n)
            clear HR
            have zt0 := g68.c0
            have zt1 := g68.c1
            have zt2 := g68.c2
            have zt3 := g68.c3
            have ztb : ¬ w.heap.size = c.bp := fun e => g68.free (.inl e)
            have ztc : ¬ c.bp = w.heap.size := fun e => g68.free (.inl e.symm)
            have ztl := g68.lt
            have zw0 := g65.c0
            have zw1 := g65.c1
            have zw2 := g65.c2
            have zw3 := g65.c3
            have zwb : ¬ w62.heap.size = c.bp := fun e => g65.free (.inl e)
            have zwc : ¬ c.bp = w62.heap.size := fun e => g65.free (.inl e.symm)
            have zwl := g65.lt
            go_wp2_with fail
            clear zt0 zt1 zt2 zt3 ztb ztc ztl zw0 zw1 zw2 zw3 zwb zwc zwl
            refine (fail_calls m66.ps m66.rem 5).mono ?_
            rintro e wz hbad
            have hb2 := Bad.trans m66.fr hbad
            obtain ⟨rfl, _⟩ := hbad
            exact ⟨rfl, PostN.bad hb2 (by simp [HE.out])⟩
      · refine (take_no mr.ps mr.rem [46] (by simpa using hq61)).mono ?_
        rintro e w105 ⟨rfl, hb⟩
        have gt' := gt.below hb
        have m106 := mr.below hb
        clear mr
        have g107 := gt'
        clear gt' gt
        clear hb
        have zt0 := g107.c0
        have zt1 := g107.c1
        have zt2 := g107.c2
        have zt3 := g107.c3
        have ztb : ¬ w.heap.size = c.bp := fun e => g107.free (.inl e)
        have ztc : ¬ c.bp = w.heap.size := fun e => g107.free (.inl e.symm)
        have ztl := g107.lt
        go_wp2_with fail
        clear zt0 zt1 zt2 zt3 ztb ztc ztl
        have hdn : isTok (hd Ri) [46] = false := by simpa using hq61
        clear hq61
        by_cases hq108 : isTok (hd Ri) [91] = true
        · refine (take_yes m106.ps m106.rem [91] hq108).mono ?_
          rintro e w109 ⟨rfl, hp, hf⟩
          have m110 := m106.next hp hf
          have g107' := g107.fr hf
          have g111 := g107'
          clear g107' g107
          clear hp hf m106
          have zt0 := g111.c0
          have zt1 := g111.c1
          have zt2 := g111.c2
          have zt3 := g111.c3
          have ztb : ¬ w.heap.size = c.bp := fun e => g111.free (.inl e)
          have ztc : ¬ c.bp = w.heap.size := fun e => g111.free (.inl e.symm)
          have ztl := g111.lt
          go_wp2_with fail
          clear zt0 zt1 zt2 zt3 ztb ztc ztl
          have HE := hidden (HR.idx HN.out hdn hq108)
          have HRle := HR.le
          clear HR hdn
          have HChc112 : Hid (pRun n (.assign lv) Ri.tail ≠ .out) := fun e => HN.out (by simp [HE.out, Res.bind, need, fail, e])
          refine (ih.assign _ _ _ _ _ m110.ps m110.rem (m110.lv HL.out) hle HChc112.out).mono ?_
          rintro e w113 hpost
          rcases hc112 : pRun n (.assign lv) Ri.tail with ⟨tshc112, Rhc112⟩ | ⟨en, p⟩ | _
          rotate_left
          · rw [hc112] at hpost
            have hb2 := Bad.trans m110.fr hpost
            obtain ⟨rfl, _⟩ := hpost
            exact ⟨rfl, PostN.bad hb2 (by simp [HE.out, Res.bind, need, fail, hc112])⟩
          · exact absurd hc112 HChc112.out
          rw [hc112] at hpost
          obtain ⟨shc112, khc112, thc112, rfl, rfl, mm⟩ := hpost
          have m114 := m110.call mm
          have g111' := g111.fr mm.fr
          have g115 := g111'
          clear g111' g111
          have Hhc112 := hidden hc112
          clear mm m110 hc112 HChc112
          have zt0 := g115.c0
          have zt1 := g115.c1
          have zt2 := g115.c2
          have zt3 := g115.c3
          have ztb : ¬ w.heap.size = c.bp := fun e => g115.free (.inl e)
          have ztc : ¬ c.bp = w.heap.size := fun e => g115.free (.inl e.symm)
          have ztl := g115.lt
          go_wp2_with fail
          clear zt0 zt1 zt2 zt3 ztb ztc ztl
          by_cases hx116 : isTok (hd Rhc112) [93] = true
          rotate_left
          · refine (need_no m114.ps m114.rem [93] (by simpa using hx116)).mono ?_
            rintro e wz hbad
            have hb2 := Bad.trans m114.fr hbad
            obtain ⟨rfl, _⟩ := hbad
            exact ⟨rfl, PostN.bad hb2 (by simp [HE.out, Res.bind, need, fail, Hhc112.out, hx116])⟩
          refine (need_yes m114.ps m114.rem [93] hx116).mono ?_
          rintro e w117 ⟨rfl, hp, hf⟩
          have m118 := m114.next hp hf
          have g115' := g115.fr hf
          have g119 := g115'
          clear g115' g115
          clear hp hf m114
          have HR2 : PostAt n lv true (hd R).pos (postfixB (pRun n) lv true R) m (.node 35 (hd R).pos [] 0 [t, thc112]) Rhc112.tail := ⟨by omega, by simp [HE.out, Res.bind, need, fail, Hhc112.out, hx116]⟩
          clear HE
          have zt0 := g119.c0
          have zt1 := g119.c1
          have zt2 := g119.c2
          have zt3 := g119.c3
          have ztb : ¬ w.heap.size = c.bp := fun e => g119.free (.inl e)
          have ztc : ¬ c.bp = w.heap.size := fun e => g119.free (.inl e.symm)
          have ztl := g119.lt
          go_wp2_with fail
          clear zt0 zt1 zt2 zt3 ztb ztc ztl
          have nb121 : (Value.slice (some ⟨w117.heap.size, 0, none⟩) 2 2).ownBlock ≠ some w.heap.size := by have : w.heap.size < w117.heap.size := g119.lt; simp [Value.ownBlock]; omega
          have l120 : Lst c w (w117.alloc (.cells #[.int .i64 kk, .int .i64 khc112] 3)) _ (.slice (some ⟨w117.heap.size, 0, none⟩) 2 2) [kk, khc112] := Lst.made m118 [kk, khc112] (by simp)
          have g119' := g119.below ((Below.refl _ _).alloc (Nat.le_refl _) (.cells #[.int .i64 kk, .int .i64 khc112] 3))
          have m122 := m118.below ((Below.refl _ _).alloc (Nat.le_refl _) (.cells #[.int .i64 kk, .int .i64 khc112] 3))
          clear m118
          have g123 := g119'
          clear g119' g119
          generalize w117.alloc (.cells #[.int .i64 kk, .int .i64 khc112] 3) = w124 at m122 l120 g123 ⊢
          refine (node_mid m122 l120 h.room 35 (hd R).pos []).mono ?_
          rintro e w125 ⟨s127, k126, rfl, m128, hp⟩
          have g123' := g123.kept hp nb121
          clear hp m122
          have g129 := g123'
          clear g123' g123
          have zt0 := g129.c0
          have zt1 := g129.c1
          have zt2 := g129.c2
          have zt3 := g129.c3
          have ztb : ¬ w.heap.size = c.bp := fun e => g129.free (.inl e)
          have ztc : ¬ c.bp = w.heap.size := fun e => g129.free (.inl e.symm)
          have ztl := g129.lt
          go_wp2_with fail
          clear zt0 zt1 zt2 zt3 ztb ztc ztl
          go_roundg m
          case measure => omega
          case rel => exact ⟨_, _, _, _, _, rfl, m128, g129, HR2⟩
        · refine (take_no m106.ps m106.rem [91] (by simpa using hq108)).mono ?_
          rintro e w130 ⟨rfl, hb⟩
          have g107' := g107.below hb
          have m131 := m106.below hb
          clear m106
          have g132 := g107'
          clear g107' g107
          clear hb
          have zt0 := g132.c0
          have zt1 := g132.c1
          have zt2 := g132.c2
          have zt3 := g132.c3
          have ztb : ¬ w.heap.size = c.bp := fun e => g132.free (.inl e)
          have ztc : ¬ c.bp = w.heap.size := fun e => g132.free (.inl e.symm)
          have ztl := g132.lt
          go_wp2_with fail
          clear zt0 zt1 zt2 zt3 ztb ztc ztl
          have hin : isTok (hd Ri) [91] = false := by simpa using hq108
          clear hq108
          by_cases hq133 : isTok (hd Ri) [40] = true
          · refine (take_yes m131.ps m131.rem [40] hq133).mono ?_
            rintro e w134 ⟨rfl, hp, hf⟩
            have m135 := m131.next hp hf
            have g132' := g132.fr hf
            have g136 := g132'
            clear g132' g132
            clear hp hf m131
            have zt0 := g136.c0
            have zt1 := g136.c1
            have zt2 := g136.c2
            have zt3 := g136.c3
            have ztb : ¬ w.heap.size = c.bp := fun e => g136.free (.inl e)
            have ztc : ¬ c.bp = w.heap.size := fun e => g136.free (.inl e.symm)
            have ztl := g136.lt
            go_wp2_with fail
            clear zt0 zt1 zt2 zt3 ztb ztc ztl
            have HE := hidden (HR.call HN.out hdn hin hq133)
            have HRle := HR.le
            clear HR hdn hin
            have g136' := g136.below ((Below.refl _ _).drew)
            have m137 := m135.below ((Below.refl _ _).drew)
            clear m135
            have g138 := g136'
            clear g136' g136
            have q139 := g138.c1
            have q140 := g138.lt
            go_region_held2 (fun w' => w'.cell? ⟨w.heap.size, 1, none⟩ = some (.int .i64 (hd R).pos))
              (first | assumption | exact cell_alloc_drew _ (Held.c1 (by assumption)) | exact cell_alloc' _ (Held.c1 (by assumption)) | go_keep)
              (first
                | (go_at_call 125
                   have HChc141 : Hid (pRun n (.list lv [41] 64 .assign 0) Ri.tail ≠ .out) := fun e => HN.out (by simp [HE.out, Res.bind, e])
                   refine (list_assign n ih m137.ps m137.rem (m137.lv HL.out) hle [41] 64 (by decide) 0 HChc141.out (fun e => nomatch e)).mono ?_
                   rintro e w142 hpost
                   rcases hc141 : pRun n (.list lv [41] 64 .assign 0) Ri.tail with ⟨tshc141, Rhc141⟩ | ⟨en, p⟩ | _
                   rotate_left
                   · rw [hc141] at hpost
                     have hb2 := Bad.trans m137.fr hpost
                     obtain ⟨rfl, _⟩ := hpost
                     exact ⟨rfl, PostN.bad hb2 (by simp [HE.out, Res.bind, hc141])⟩
                   · exact absurd hc141 HChc141.out
                   rw [hc141] at hpost
                   obtain ⟨shc141, vhc141, khc141, rfl, mm, l143⟩ := hpost
                   have m144 := m137.call mm
                   have lt145 := g138.lt
                   have g138' := g138.fr mm.fr
                   have g146 := g138'
                   clear g138' g138
                   have nb147 : vhc141.ownBlock ≠ some w.heap.size := fun e => by have h1 := (l143.new _ e).2.1; have h2 := lt145; omega
                   have l148 := l143.older m137.fr.size
                   clear l143
                   have Hhc141 := hidden hc141
                   clear mm m137 hc141 HChc141
                   clear q139
                   clear q140
                   have q149 := g146.c1
                   have q150 := g146.lt)
                | (skip
                   have nb152 : (Value.slice (some ⟨w142.heap.size, 0, none⟩) 1 1).ownBlock ≠ some w.heap.size := by have : w.heap.size < w142.heap.size := g146.lt; simp [Value.ownBlock]; omega
                   have nb153 : ∀ k, (vhc141 : Value).ownBlock = some k → (Value.slice (some ⟨w142.heap.size, 0, none⟩) 1 1).ownBlock ≠ some k := fun k e => by have := (l148.row.lt k e).2; simp [Value.ownBlock]; omega
                   have l151 : Lst c w (w142.alloc (.cells #[.int .i64 kk] 3)) _ (.slice (some ⟨w142.heap.size, 0, none⟩) 1 1) [kk] := Lst.made m144 [kk] (by simp)
                   have l148' := l148.below ((Below.refl _ _).alloc (Nat.le_refl _) (.cells #[.int .i64 kk] 3))
                   have g146' := g146.below ((Below.refl _ _).alloc (Nat.le_refl _) (.cells #[.int .i64 kk] 3))
                   have m154 := m144.below ((Below.refl _ _).alloc (Nat.le_refl _) (.cells #[.int .i64 kk] 3))
                   clear m144
                   have l155 := l148'
                   clear l148' l148
                   have g156 := g146'
                   clear g146' g146
                   generalize w142.alloc (.cells #[.int .i64 kk] 3) = w157 at m154 l151 l155 g156 ⊢
                   have hbase := m154.ps.bp_lt
                   have hkl := m154.kids_le
                   have l0 : Lst c w w157 (shc141) (.slice (some ⟨w142.heap.size, 0, none⟩) 1 1) [kk] := l151
                   have l9 : Lst c w w157 (shc141) vhc141 khc141 := l155
                   refine step_append_spread (by rfl) _ _ _ (by rfl) (c.bp + 1) (c.bp + 1) 3 i0 _ 8 Tryz.underlying30 hi0 hz0 hz1 hz2 rfl (.slice (some ⟨w142.heap.size, 0, none⟩) 1 1) ([kk]).length (ints [kk]) (by rfl) l0.row (by simp) vhc141 (khc141).length (ints khc141) (by rfl) l9.row (ints_one _) (by unfold maxLen; first | omega | (simp at hkl ⊢; done) | (simp at hkl ⊢; omega)) (by first | omega | (simp at hkl ⊢; done) | (simp at hkl ⊢; omega)) (by omega) w157.heap.size rfl ?_
                   intro g158 cap159 w160 hown hgrow hat
                   have nb163 : (Value.slice (some ⟨g158, 0, none⟩) (([kk]).length + (khc141).length) cap159).ownBlock ≠ some w.heap.size := by
                     intro e
                     have e' : g158 = w.heap.size := by simpa [Value.ownBlock] using e
                     rcases hat with h1 | h1
                     · exact nb152 (h1.trans (by rw [e']))
                     · have := g156.lt; omega
                   have g156' := g156.grown hgrow nb152
                   obtain ⟨m161, l162⟩ := Mid.spread m154 l0 hgrow hown (hat.imp id (by omega))
                   clear hown hgrow hat hbase hkl l0 l9 m154
                   have g164 := g156'
                   clear g156' g156
                   clear q149
                   clear q150
                   have q165 := g164.c1
                   have q166 := g164.lt)
                | (go_at_call 57
                   refine (node_mid m161 l162 h.room 36 (hd R).pos []).mono ?_
                   rintro e w167 ⟨s169, k168, rfl, m170, hp⟩
                   have g164' := g164.kept hp nb163
                   clear hp m161
                   have g171 := g164'
                   clear g164' g164
                   clear q165
                   clear q166
                   have q172 := g171.c1
                   have q173 := g171.lt)
                | (go_at_call 125
                   have hcm : (w134.alloc (.cells #[.int .i64 kk] 3)).drew = w134.drew.alloc (.cells #[.int .i64 kk] 3) := rfl
                   rw [hcm]
                   clear hcm
                   have nb175 : (Value.slice (some ⟨w134.heap.size, 0, none⟩) 1 1).ownBlock ≠ some w.heap.size := by have : w.heap.size < w134.heap.size := g138.lt; simp [Value.ownBlock]; omega
                   have l174 : Lst c w (w134.drew.alloc (.cells #[.int .i64 kk] 3)) _ (.slice (some ⟨w134.heap.size, 0, none⟩) 1 1) [kk] := Lst.made m137 [kk] (by simp)
                   have g138' := g138.below ((Below.refl _ _).alloc (Nat.le_refl _) (.cells #[.int .i64 kk] 3))
                   have m176 := m137.below ((Below.refl _ _).alloc (Nat.le_refl _) (.cells #[.int .i64 kk] 3))
                   clear m137
                   have g177 := g138'
                   clear g138' g138
                   generalize w134.drew.alloc (.cells #[.int .i64 kk] 3) = w178 at m176 l174 g177 ⊢
                   have HChc179 : Hid (pRun n (.list lv [41] 64 .assign 0) Ri.tail ≠ .out) := fun e => HN.out (by simp [HE.out, Res.bind, e])
                   refine (list_assign n ih m176.ps m176.rem (m176.lv HL.out) hle [41] 64 (by decide) 0 HChc179.out (fun e => nomatch e)).mono ?_
                   rintro e w180 hpost
                   rcases hc179 : pRun n (.list lv [41] 64 .assign 0) Ri.tail with ⟨tshc179, Rhc179⟩ | ⟨en, p⟩ | _
                   rotate_left
                   · rw [hc179] at hpost
                     have hb2 := Bad.trans m176.fr hpost
                     obtain ⟨rfl, _⟩ := hpost
                     exact ⟨rfl, PostN.bad hb2 (by simp [HE.out, Res.bind, hc179])⟩
                   · exact absurd hc179 HChc179.out
                   rw [hc179] at hpost
                   obtain ⟨shc179, vhc179, khc179, rfl, mm, l181⟩ := hpost
                   have m182 := m176.call mm
                   have lt183 := g177.lt
                   have l174' := l174.fr mm.fr
                   have g177' := g177.fr mm.fr
                   have l184 := l174'
                   clear l174' l174
                   have g185 := g177'
                   clear g177' g177
                   have nb186 : vhc179.ownBlock ≠ some w.heap.size := fun e => by have h1 := (l181.new _ e).2.1; have h2 := lt183; omega
                   have l187 := l181.older m176.fr.size
                   clear l181
                   have Hhc179 := hidden hc179
                   clear mm m176 hc179 HChc179
                   clear q139
                   clear q140
                   have q188 := g185.c1
                   have q189 := g185.lt)
                | (skip
                   have hbase := m182.ps.bp_lt
                   have hkl := m182.kids_le
                   have l0 : Lst c w w180 (shc179) (.slice (some ⟨w134.heap.size, 0, none⟩) 1 1) [kk] := l184
                   have l9 : Lst c w w180 (shc179) vhc179 khc179 := l187
                   refine step_append_spread (by rfl) _ _ _ (by rfl) (c.bp + 1) (c.bp + 1) 3 i0 _ 8 Tryz.underlying30 hi0 hz0 hz1 hz2 rfl (.slice (some ⟨w134.heap.size, 0, none⟩) 1 1) ([kk]).length (ints [kk]) (by rfl) l0.row (by simp) vhc179 (khc179).length (ints khc179) (by rfl) l9.row (ints_one _) (by unfold maxLen; first | omega | (simp at hkl ⊢; done) | (simp at hkl ⊢; omega)) (by first | omega | (simp at hkl ⊢; done) | (simp at hkl ⊢; omega)) (by omega) w180.heap.size rfl ?_
                   intro g190 cap191 w192 hown hgrow hat
                   have nb195 : (Value.slice (some ⟨g190, 0, none⟩) (([kk]).length + (khc179).length) cap191).ownBlock ≠ some w.heap.size := by
                     intro e
                     have e' : g190 = w.heap.size := by simpa [Value.ownBlock] using e
                     rcases hat with h1 | h1
                     · exact nb175 (h1.trans (by rw [e']))
                     · have := g185.lt; omega
                   have g185' := g185.grown hgrow nb175
                   obtain ⟨m193, l194⟩ := Mid.spread m182 l0 hgrow hown (hat.imp id (by omega))
                   clear hown hgrow hat hbase hkl l0 l9 m182
                   have g196 := g185'
                   clear g185' g185
                   clear q188
                   clear q189
                   have q197 := g196.c1
                   have q198 := g196.lt)
                | (go_at_call 57
                   refine (node_mid m193 l194 h.room 36 (hd R).pos []).mono ?_
                   rintro e w199 ⟨s201, k200, rfl, m202, hp⟩
                   have g196' := g196.kept hp nb195
                   clear hp m193
                   have g203 := g196'
                   clear g196' g196
                   clear q197
                   clear q198
                   have q204 := g203.c1
                   have q205 := g203.lt))
            · skip
              clear q204
              clear q205
              have HR2 : PostAt n lv true (hd R).pos (postfixB (pRun n) lv true R) m (.node 36 (hd R).pos [] 0 (t :: tshc179)) Rhc179 := ⟨by omega, by simp [HE.out, Res.bind, Hhc179.out]⟩
              clear HE
              have zt0 := g203.c0
              have zt1 := g203.c1
              have zt2 := g203.c2
              have zt3 := g203.c3
              have ztb : ¬ w.heap.size = c.bp := fun e => g203.free (.inl e)
              have ztc : ¬ c.bp = w.heap.size := fun e => g203.free (.inl e.symm)
              have ztl := g203.lt
              go_wp2_with fail
              clear zt0 zt1 zt2 zt3 ztb ztc ztl
              go_roundg m
              case measure => omega
              case rel => exact ⟨_, _, _, _, _, rfl, m202, g203, HR2⟩
            · skip
              clear q204
              clear q205
              have HR2 : PostAt n lv true (hd R).pos (postfixB (pRun n) lv true R) m (.node 36 (hd R).pos [] 0 (t :: tshc179)) Rhc179 := ⟨by omega, by simp [HE.out, Res.bind, Hhc179.out]⟩
              clear HE
              have zt0 := g203.c0
              have zt1 := g203.c1
              have zt2 := g203.c2
              have zt3 := g203.c3
              have ztb : ¬ w.heap.size = c.bp := fun e => g203.free (.inl e)
              have ztc : ¬ c.bp = w.heap.size := fun e => g203.free (.inl e.symm)
              have ztl := g203.lt
              go_wp2_with fail
              clear zt0 zt1 zt2 zt3 ztb ztc ztl
              go_roundg m
              case measure => omega
              case rel => exact ⟨_, _, _, _, _, rfl, m202, g203, HR2⟩
            · skip
              clear q172
              clear q173
              have HR2 : PostAt n lv true (hd R).pos (postfixB (pRun n) lv true R) m (.node 36 (hd R).pos [] 0 (t :: tshc141)) Rhc141 := ⟨by omega, by simp [HE.out, Res.bind, Hhc141.out]⟩
              clear HE
              have zt0 := g171.c0
              have zt1 := g171.c1
              have zt2 := g171.c2
              have zt3 := g171.c3
              have ztb : ¬ w.heap.size = c.bp := fun e => g171.free (.inl e)
              have ztc : ¬ c.bp = w.heap.size := fun e => g171.free (.inl e.symm)
              have ztl := g171.lt
              go_wp2_with fail
              clear zt0 zt1 zt2 zt3 ztb ztc ztl
              go_roundg m
              case measure => omega
              case rel => exact ⟨_, _, _, _, _, rfl, m170, g171, HR2⟩
          · refine (take_no m131.ps m131.rem [40] (by simpa using hq133)).mono ?_
            rintro e w206 ⟨rfl, hb⟩
            have g132' := g132.below hb
            have m207 := m131.below hb
            clear m131
            have g208 := g132'
            clear g132' g132
            clear hb
            have zt0 := g208.c0
            have zt1 := g208.c1
            have zt2 := g208.c2
            have zt3 := g208.c3
            have ztb : ¬ w.heap.size = c.bp := fun e => g208.free (.inl e)
            have ztc : ¬ c.bp = w.heap.size := fun e => g208.free (.inl e.symm)
            have ztl := g208.lt
            go_wp2_with fail
            clear zt0 zt1 zt2 zt3 ztb ztc ztl
            have HE := hidden (HR.stop hdn hin (by simpa using hq133))
            clear HR
            go_ret
            exact PostN.fin m207 HE.out
  have hq4n : isTok (hd R) [110, 101, 119] = false := by simpa using hq4
  clear hq4
  have zt0 := g7.c0
  have zt1 := g7.c1
  have zt2 := g7.c2
  have zt3 := g7.c3
  have ztb : ¬ w.heap.size = c.bp := fun e => g7.free (.inl e)
  have ztc : ¬ c.bp = w.heap.size := fun e => g7.free (.inl e.symm)
  have ztl := g7.lt
  go_wp2_with fail
  clear zt0 zt1 zt2 zt3 ztb ztc ztl
  have HChc209 : Hid (pRun n (.primary lv) R ≠ .out) := fun e => HN.out (by simp [postfixB, Res.bind, fail, ok1, need, hq4n, e])
  refine (ih.primary _ _ _ _ _ m6.ps m6.rem (m6.lv HL.out) hle HChc209.out).mono ?_
  rintro e w210 hpost
  rcases hc209 : pRun n (.primary lv) R with ⟨tshc209, Rhc209⟩ | ⟨en, p⟩ | _
  rotate_left
  · rw [hc209] at hpost
    have hb2 := Bad.trans m6.fr hpost
    obtain ⟨rfl, _⟩ := hpost
    exact ⟨rfl, PostN.bad hb2 (by simp [postfixB, Res.bind, fail, ok1, need, hq4n, hc209])⟩
  · exact absurd hc209 HChc209.out
  rw [hc209] at hpost
  obtain ⟨shc209, khc209, thc209, rfl, rfl, mm⟩ := hpost
  have m211 := m6.call mm
  have g7' := g7.fr mm.fr
  have g212 := g7'
  clear g7' g7
  have Hhc209 := hidden hc209
  clear mm m6 hc209 HChc209
  have HB : PostAt n lv true (hd R).pos (postfixB (pRun n) lv true R) n thc209 Rhc209 := ⟨Nat.le_refl _, by simp [postfixB, Res.bind, fail, ok1, need, hq4n, Hhc209.out]⟩
  have zt0 := g212.c0
  have zt1 := g212.c1
  have zt2 := g212.c2
  have zt3 := g212.c3
  have ztb : ¬ w.heap.size = c.bp := fun e => g212.free (.inl e)
  have ztc : ¬ c.bp = w.heap.size := fun e => g212.free (.inl e.symm)
  have ztl := g212.lt
  go_wp2_with fail
  clear zt0 zt1 zt2 zt3 ztb ztc ztl
  go_loopg [6] n (fun m u wr => ∃ (kk : Nat), ∃ si Ri t d, .int .i64 kk = u ∧ Mid c w s wr si Ri [t] [kk] d ∧ Held c wr si w.heap.size (hd R) ∧ PostAt n lv true (hd R).pos (postfixB (pRun n) lv true R) m t Ri)
  case atStart => exact ⟨_, _, _, _, _, rfl, m211, g212, HB⟩
  case round =>
    obtain ⟨kk, si, Ri, t, d, rfl, mr, gt, HR⟩ := hrel
    clear m211 g212 HB
    obtain ⟨m, rfl⟩ := HR.pos HN.out
    have zt0 := gt.c0
    have zt1 := gt.c1
    have zt2 := gt.c2
    have zt3 := gt.c3
    have ztb : ¬ w.heap.size = c.bp := fun e => gt.free (.inl e)
    have ztc : ¬ c.bp = w.heap.size := fun e => gt.free (.inl e.symm)
    have ztl := gt.lt
    go_wp2_with fail
    clear zt0 zt1 zt2 zt3 ztb ztc ztl
    by_cases hq213 : isTok (hd Ri) [46] = true
    · refine (take_yes mr.ps mr.rem [46] hq213).mono ?_
      rintro e w214 ⟨rfl, hp, hf⟩
      have m215 := mr.next hp hf
      have gt' := gt.fr hf
      have g216 := gt'
      clear gt' gt
      clear hp hf mr
      have zt0 := g216.c0
      have zt1 := g216.c1
      have zt2 := g216.c2
      have zt3 := g216.c3
      have ztb : ¬ w.heap.size = c.bp := fun e => g216.free (.inl e)
      have ztc : ¬ c.bp = w.heap.size := fun e => g216.free (.inl e.symm)
      have ztl := g216.lt
      go_wp2_with fail
      clear zt0 zt1 zt2 zt3 ztb ztc ztl
      have h0 := m215.ps.c0
      have h1 := m215.ps.c1
      have hbp := m215.ps.bp_lt
      have hbl := m215.ps.bl_lt
      have hi := m215.ps.i
      have hlen := m215.ps.len
      have t0 := m215.ps.t0 m215.rem
      have t1 := m215.ps.t1 m215.rem
      have t2 := m215.ps.t2 m215.rem
      have t3 := m215.ps.t3 m215.rem
      go_wp2
      go_region
      clear h0 h1 hbp hbl hi hlen t0 t1 t2 t3
      have g216' := g216.below (((Below.refl _ _).alloc (Nat.le_refl _) (.cells #[.int .u8 (hd Ri.tail).kind, .int .i64 (hd Ri.tail).pos, .string ⟨(hd Ri.tail).text.toArray⟩, .float .f64 (hd Ri.tail).num] 59)).drew)
      obtain ⟨m218, g217⟩ := m215.held
      clear m215
      change Mid c w s ((w214.alloc (.cells #[.int .u8 (hd Ri.tail).kind, .int .i64 (hd Ri.tail).pos, .string ⟨(hd Ri.tail).text.toArray⟩, .float .f64 (hd Ri.tail).num] 59)).drew) _ _ _ _ _ at m218
      change Held c ((w214.alloc (.cells #[.int .u8 (hd Ri.tail).kind, .int .i64 (hd Ri.tail).pos, .string ⟨(hd Ri.tail).text.toArray⟩, .float .f64 (hd Ri.tail).num] 59)).drew) _ _ _ at g217
      generalize ((w214.alloc (.cells #[.int .u8 (hd Ri.tail).kind, .int .i64 (hd Ri.tail).pos, .string ⟨(hd Ri.tail).text.toArray⟩, .float .f64 (hd Ri.tail).num] 59)).drew) = w219 at m218 g217 g216' ⊢
      have g220 := g216'
      clear g216' g216
      by_cases hk221 : ((hd Ri.tail).kind == 1) = true
      · have hk221a : (((hd Ri.tail).kind : Int) == 1) = true := by rw [← hk221]; exact beqK _ 1
        have hk221b : ((hd Ri.tail).kind : Int) = 1 := by simp at hk221; omega
        have hk221c : (((hd Ri.tail).kind : Int) != 1) = false := by simp only [bne, hk221a]; rfl
        have HR2 := HR.dot hq213 (.inl hk221)
        clear HR
        have zt0 := g220.c0
        have zt1 := g220.c1
        have zt2 := g220.c2
        have zt3 := g220.c3
        have ztb : ¬ w.heap.size = c.bp := fun e => g220.free (.inl e)
        have ztc : ¬ c.bp = w.heap.size := fun e => g220.free (.inl e.symm)
        have ztl := g220.lt
        have zw0 := g217.c0
        have zw1 := g217.c1
        have zw2 := g217.c2
        have zw3 := g217.c3
        have zwb : ¬ w214.heap.size = c.bp := fun e => g217.free (.inl e)
        have zwc : ¬ c.bp = w214.heap.size := fun e => g217.free (.inl e.symm)
        have zwl := g217.lt
        have hmore := m218.ps.more m218.rem (by simp at hk221; omega)
        have h1 := m218.ps.c1
        have fz1 := m218.ps.fz 1
        have hlen := m218.ps.len
        have hnx := m218.ps.next hmore
        have m222 := m218.next hnx.1 hnx.2
        have g220' := g220.fr hnx.2
        have g217' := g217.fr hnx.2
        have g223 := g220'
        clear g220' g220
        have g224 := g217'
        clear g217' g217
        go_wp2_with fail
        clear h1 fz1 hlen hnx hmore zt0 zt1 zt2 zt3 ztb ztc ztl zw0 zw1 zw2 zw3 zwb zwc zwl m218
        have hszz : w219.heap.size = (w219.setCell ⟨c.bp, 1, none⟩ (.int .i64 ((((si).next).i : Int) + 1))).heap.size := by simp [World.setCell]
        generalize (w219.setCell ⟨c.bp, 1, none⟩ (.int .i64 ((((si).next).i : Int) + 1))) = w225 at hszz m222 g223 g224 ⊢
        rw [hszz]
        clear hszz
        have nb227 : (Value.slice (some ⟨w225.heap.size, 0, none⟩) 1 1).ownBlock ≠ some w.heap.size := by have : w.heap.size < w225.heap.size := g223.lt; simp [Value.ownBlock]; omega
        have nb228 : (Value.slice (some ⟨w225.heap.size, 0, none⟩) 1 1).ownBlock ≠ some w214.heap.size := by have : w214.heap.size < w225.heap.size := g224.lt; simp [Value.ownBlock]; omega
        have l226 : Lst c w (w225.alloc (.cells #[.int .i64 kk] 3)) _ (.slice (some ⟨w225.heap.size, 0, none⟩) 1 1) [kk] := Lst.made m222 [kk] (by simp)
        have g223' := g223.below ((Below.refl _ _).alloc (Nat.le_refl _) (.cells #[.int .i64 kk] 3))
        have g224' := g224.below ((Below.refl _ _).alloc (Nat.le_refl _) (.cells #[.int .i64 kk] 3))
        have m229 := m222.below ((Below.refl _ _).alloc (Nat.le_refl _) (.cells #[.int .i64 kk] 3))
        clear m222
        have g230 := g223'
        clear g223' g223
        have g231 := g224'
        clear g224' g224
        generalize w225.alloc (.cells #[.int .i64 kk] 3) = w232 at m229 l226 g230 g231 ⊢
        refine (node_mid m229 l226 h.room 34 (hd R).pos (hd Ri.tail).text).mono ?_
        rintro e w233 ⟨s235, k234, rfl, m236, hp⟩
        have g230' := g230.kept hp nb227
        have g231' := g231.kept hp nb228
        clear hp m229
        have g237 := g230'
        clear g230' g230
        have g238 := g231'
        clear g231' g231
        have zt0 := g237.c0
        have zt1 := g237.c1
        have zt2 := g237.c2
        have zt3 := g237.c3
        have ztb : ¬ w.heap.size = c.bp := fun e => g237.free (.inl e)
        have ztc : ¬ c.bp = w.heap.size := fun e => g237.free (.inl e.symm)
        have ztl := g237.lt
        go_wp2_with fail
        clear zt0 zt1 zt2 zt3 ztb ztc ztl
        go_roundg m
        case measure => omega
        case rel => exact ⟨_, _, _, _, _, rfl, m236, g237, HR2⟩
      · have hk221n : ((hd Ri.tail).kind == 1) = false := by simpa using hk221
        have hk221a : (((hd Ri.tail).kind : Int) == 1) = false := by rw [← hk221n]; exact beqK _ 1
        have hk221b : ¬ ((hd Ri.tail).kind : Int) = 1 := by simp at hk221; omega
        clear hk221
        have hk221c : (((hd Ri.tail).kind : Int) != 1) = true := by simp only [bne, hk221a]; rfl
        by_cases hk239 : ((hd Ri.tail).kind == 2) = true
        · have hk239a : (((hd Ri.tail).kind : Int) == 2) = true := by rw [← hk239]; exact beqK _ 2
          have hk239b : ((hd Ri.tail).kind : Int) = 2 := by simp at hk239; omega
          have hk239c : (((hd Ri.tail).kind : Int) != 2) = false := by simp only [bne, hk239a]; rfl
          have HR2 := HR.dot hq213 (.inr hk239)
          clear HR
          have zt0 := g220.c0
          have zt1 := g220.c1
          have zt2 := g220.c2
          have zt3 := g220.c3
          have ztb : ¬ w.heap.size = c.bp := fun e => g220.free (.inl e)
          have ztc : ¬ c.bp = w.heap.size := fun e => g220.free (.inl e.symm)
          have ztl := g220.lt
          have zw0 := g217.c0
          have zw1 := g217.c1
          have zw2 := g217.c2
          have zw3 := g217.c3
          have zwb : ¬ w214.heap.size = c.bp := fun e => g217.free (.inl e)
          have zwc : ¬ c.bp = w214.heap.size := fun e => g217.free (.inl e.symm)
          have zwl := g217.lt
          have hmore := m218.ps.more m218.rem (by simp at hk239; omega)
          have h1 := m218.ps.c1
          have fz1 := m218.ps.fz 1
          have hlen := m218.ps.len
          have hnx := m218.ps.next hmore
          have m240 := m218.next hnx.1 hnx.2
          have g220' := g220.fr hnx.2
          have g217' := g217.fr hnx.2
          have g241 := g220'
          clear g220' g220
          have g242 := g217'
          clear g217' g217
          go_wp2_with fail
          clear h1 fz1 hlen hnx hmore zt0 zt1 zt2 zt3 ztb ztc ztl zw0 zw1 zw2 zw3 zwb zwc zwl m218
          have hszz : w219.heap.size = (w219.setCell ⟨c.bp, 1, none⟩ (.int .i64 ((((si).next).i : Int) + 1))).heap.size := by simp [World.setCell]
          generalize (w219.setCell ⟨c.bp, 1, none⟩ (.int .i64 ((((si).next).i : Int) + 1))) = w243 at hszz m240 g241 g242 ⊢
          rw [hszz]
          clear hszz
          have nb245 : (Value.slice (some ⟨w243.heap.size, 0, none⟩) 1 1).ownBlock ≠ some w.heap.size := by have : w.heap.size < w243.heap.size := g241.lt; simp [Value.ownBlock]; omega
          have nb246 : (Value.slice (some ⟨w243.heap.size, 0, none⟩) 1 1).ownBlock ≠ some w214.heap.size := by have : w214.heap.size < w243.heap.size := g242.lt; simp [Value.ownBlock]; omega
          have l244 : Lst c w (w243.alloc (.cells #[.int .i64 kk] 3)) _ (.slice (some ⟨w243.heap.size, 0, none⟩) 1 1) [kk] := Lst.made m240 [kk] (by simp)
          have g241' := g241.below ((Below.refl _ _).alloc (Nat.le_refl _) (.cells #[.int .i64 kk] 3))
          have g242' := g242.below ((Below.refl _ _).alloc (Nat.le_refl _) (.cells #[.int .i64 kk] 3))
          have m247 := m240.below ((Below.refl _ _).alloc (Nat.le_refl _) (.cells #[.int .i64 kk] 3))
          clear m240
          have g248 := g241'
          clear g241' g241
          have g249 := g242'
          clear g242' g242
          generalize w243.alloc (.cells #[.int .i64 kk] 3) = w250 at m247 l244 g248 g249 ⊢
          refine (node_mid m247 l244 h.room 34 (hd R).pos (hd Ri.tail).text).mono ?_
          rintro e w251 ⟨s253, k252, rfl, m254, hp⟩
          have g248' := g248.kept hp nb245
          have g249' := g249.kept hp nb246
          clear hp m247
          have g255 := g248'
          clear g248' g248
          have g256 := g249'
          clear g249' g249
          have zt0 := g255.c0
          have zt1 := g255.c1
          have zt2 := g255.c2
          have zt3 := g255.c3
          have ztb : ¬ w.heap.size = c.bp := fun e => g255.free (.inl e)
          have ztc : ¬ c.bp = w.heap.size := fun e => g255.free (.inl e.symm)
          have ztl := g255.lt
          go_wp2_with fail
          clear zt0 zt1 zt2 zt3 ztb ztc ztl
          go_roundg m
          case measure => omega
          case rel => exact ⟨_, _, _, _, _, rfl, m254, g255, HR2⟩
        · have hk239n : ((hd Ri.tail).kind == 2) = false := by simpa using hk239
          have hk239a : (((hd Ri.tail).kind : Int) == 2) = false := by rw [← hk239n]; exact beqK _ 2
          have hk239b : ¬ ((hd Ri.tail).kind : Int) = 2 := by simp at hk239; omega
          clear hk239
          have hk239c : (((hd Ri.tail).kind : Int) != 2) = true := by simp only [bne, hk239a]; rfl
          have HE := hidden (HR.dotBad hq213 hk221n hk239n)
          clear HR
          have zt0 := g220.c0
          have zt1 := g220.c1
          have zt2 := g220.c2
          have zt3 := g220.c3
          have ztb : ¬ w.heap.size = c.bp := fun e => g220.free (.inl e)
          have ztc : ¬ c.bp = w.heap.size := fun e => g220.free (.inl e.symm)
          have ztl := g220.lt
          have zw0 := g217.c0
          have zw1 := g217.c1
          have zw2 := g217.c2
          have zw3 := g217.c3
          have zwb : ¬ w214.heap.size = c.bp := fun e => g217.free (.inl e)
          have zwc : ¬ c.bp = w214.heap.size := fun e => g217.free (.inl e.symm)
          have zwl := g217.lt
          go_wp2_with fail
          clear zt0 zt1 zt2 zt3 ztb ztc ztl zw0 zw1 zw2 zw3 zwb zwc zwl
          refine (fail_calls m218.ps m218.rem 5).mono ?_
          rintro e wz hbad
          have hb2 := Bad.trans m218.fr hbad
          obtain ⟨rfl, _⟩ := hbad
          exact ⟨rfl, PostN.bad hb2 (by simp [HE.out])⟩
    · refine (take_no mr.ps mr.rem [46] (by simpa using hq213)).mono ?_
      rintro e w257 ⟨rfl, hb⟩
      have gt' := gt.below hb
      have m258 := mr.below hb
      clear mr
      have g259 := gt'
      clear gt' gt
      clear hb
      have zt0 := g259.c0
      have zt1 := g259.c1
      have zt2 := g259.c2
      have zt3 := g259.c3
      have ztb : ¬ w.heap.size = c.bp := fun e => g259.free (.inl e)
      have ztc : ¬ c.bp = w.heap.size := fun e => g259.free (.inl e.symm)
      have ztl := g259.lt
      go_wp2_with fail
      clear zt0 zt1 zt2 zt3 ztb ztc ztl
      have hdn : isTok (hd Ri) [46] = false := by simpa using hq213
      clear hq213
      by_cases hq260 : isTok (hd Ri) [91] = true
      · refine (take_yes m258.ps m258.rem [91] hq260).mono ?_
        rintro e w261 ⟨rfl, hp, hf⟩
        have m262 := m258.next hp hf
        have g259' := g259.fr hf
        have g263 := g259'
        clear g259' g259
        clear hp hf m258
        have zt0 := g263.c0
        have zt1 := g263.c1
        have zt2 := g263.c2
        have zt3 := g263.c3
        have ztb : ¬ w.heap.size = c.bp := fun e => g263.free (.inl e)
        have ztc : ¬ c.bp = w.heap.size := fun e => g263.free (.inl e.symm)
        have ztl := g263.lt
        go_wp2_with fail
        clear zt0 zt1 zt2 zt3 ztb ztc ztl
        have HE := hidden (HR.idx HN.out hdn hq260)
        have HRle := HR.le
        clear HR hdn
        have HChc264 : Hid (pRun n (.assign lv) Ri.tail ≠ .out) := fun e => HN.out (by simp [HE.out, Res.bind, need, fail, e])
        refine (ih.assign _ _ _ _ _ m262.ps m262.rem (m262.lv HL.out) hle HChc264.out).mono ?_
        rintro e w265 hpost
        rcases hc264 : pRun n (.assign lv) Ri.tail with ⟨tshc264, Rhc264⟩ | ⟨en, p⟩ | _
        rotate_left
        · rw [hc264] at hpost
          have hb2 := Bad.trans m262.fr hpost
          obtain ⟨rfl, _⟩ := hpost
          exact ⟨rfl, PostN.bad hb2 (by simp [HE.out, Res.bind, need, fail, hc264])⟩
        · exact absurd hc264 HChc264.out
        rw [hc264] at hpost
        obtain ⟨shc264, khc264, thc264, rfl, rfl, mm⟩ := hpost
        have m266 := m262.call mm
        have g263' := g263.fr mm.fr
        have g267 := g263'
        clear g263' g263
        have Hhc264 := hidden hc264
        clear mm m262 hc264 HChc264
        have zt0 := g267.c0
        have zt1 := g267.c1
        have zt2 := g267.c2
        have zt3 := g267.c3
        have ztb : ¬ w.heap.size = c.bp := fun e => g267.free (.inl e)
        have ztc : ¬ c.bp = w.heap.size := fun e => g267.free (.inl e.symm)
        have ztl := g267.lt
        go_wp2_with fail
        clear zt0 zt1 zt2 zt3 ztb ztc ztl
        by_cases hx268 : isTok (hd Rhc264) [93] = true
        rotate_left
        · refine (need_no m266.ps m266.rem [93] (by simpa using hx268)).mono ?_
          rintro e wz hbad
          have hb2 := Bad.trans m266.fr hbad
          obtain ⟨rfl, _⟩ := hbad
          exact ⟨rfl, PostN.bad hb2 (by simp [HE.out, Res.bind, need, fail, Hhc264.out, hx268])⟩
        refine (need_yes m266.ps m266.rem [93] hx268).mono ?_
        rintro e w269 ⟨rfl, hp, hf⟩
        have m270 := m266.next hp hf
        have g267' := g267.fr hf
        have g271 := g267'
        clear g267' g267
        clear hp hf m266
        have HR2 : PostAt n lv true (hd R).pos (postfixB (pRun n) lv true R) m (.node 35 (hd R).pos [] 0 [t, thc264]) Rhc264.tail := ⟨by omega, by simp [HE.out, Res.bind, need, fail, Hhc264.out, hx268]⟩
        clear HE
        have zt0 := g271.c0
        have zt1 := g271.c1
        have zt2 := g271.c2
        have zt3 := g271.c3
        have ztb : ¬ w.heap.size = c.bp := fun e => g271.free (.inl e)
        have ztc : ¬ c.bp = w.heap.size := fun e => g271.free (.inl e.symm)
        have ztl := g271.lt
        go_wp2_with fail
        clear zt0 zt1 zt2 zt3 ztb ztc ztl
        have nb273 : (Value.slice (some ⟨w269.heap.size, 0, none⟩) 2 2).ownBlock ≠ some w.heap.size := by have : w.heap.size < w269.heap.size := g271.lt; simp [Value.ownBlock]; omega
        have l272 : Lst c w (w269.alloc (.cells #[.int .i64 kk, .int .i64 khc264] 3)) _ (.slice (some ⟨w269.heap.size, 0, none⟩) 2 2) [kk, khc264] := Lst.made m270 [kk, khc264] (by simp)
        have g271' := g271.below ((Below.refl _ _).alloc (Nat.le_refl _) (.cells #[.int .i64 kk, .int .i64 khc264] 3))
        have m274 := m270.below ((Below.refl _ _).alloc (Nat.le_refl _) (.cells #[.int .i64 kk, .int .i64 khc264] 3))
        clear m270
        have g275 := g271'
        clear g271' g271
        generalize w269.alloc (.cells #[.int .i64 kk, .int .i64 khc264] 3) = w276 at m274 l272 g275 ⊢
        refine (node_mid m274 l272 h.room 35 (hd R).pos []).mono ?_
        rintro e w277 ⟨s279, k278, rfl, m280, hp⟩
        have g275' := g275.kept hp nb273
        clear hp m274
        have g281 := g275'
        clear g275' g275
        have zt0 := g281.c0
        have zt1 := g281.c1
        have zt2 := g281.c2
        have zt3 := g281.c3
        have ztb : ¬ w.heap.size = c.bp := fun e => g281.free (.inl e)
        have ztc : ¬ c.bp = w.heap.size := fun e => g281.free (.inl e.symm)
        have ztl := g281.lt
        go_wp2_with fail
        clear zt0 zt1 zt2 zt3 ztb ztc ztl
        go_roundg m
        case measure => omega
        case rel => exact ⟨_, _, _, _, _, rfl, m280, g281, HR2⟩
      · refine (take_no m258.ps m258.rem [91] (by simpa using hq260)).mono ?_
        rintro e w282 ⟨rfl, hb⟩
        have g259' := g259.below hb
        have m283 := m258.below hb
        clear m258
        have g284 := g259'
        clear g259' g259
        clear hb
        have zt0 := g284.c0
        have zt1 := g284.c1
        have zt2 := g284.c2
        have zt3 := g284.c3
        have ztb : ¬ w.heap.size = c.bp := fun e => g284.free (.inl e)
        have ztc : ¬ c.bp = w.heap.size := fun e => g284.free (.inl e.symm)
        have ztl := g284.lt
        go_wp2_with fail
        clear zt0 zt1 zt2 zt3 ztb ztc ztl
        have hin : isTok (hd Ri) [91] = false := by simpa using hq260
        clear hq260
        by_cases hq285 : isTok (hd Ri) [40] = true
        · refine (take_yes m283.ps m283.rem [40] hq285).mono ?_
          rintro e w286 ⟨rfl, hp, hf⟩
          have m287 := m283.next hp hf
          have g284' := g284.fr hf
          have g288 := g284'
          clear g284' g284
          clear hp hf m283
          have zt0 := g288.c0
          have zt1 := g288.c1
          have zt2 := g288.c2
          have zt3 := g288.c3
          have ztb : ¬ w.heap.size = c.bp := fun e => g288.free (.inl e)
          have ztc : ¬ c.bp = w.heap.size := fun e => g288.free (.inl e.symm)
          have ztl := g288.lt
          go_wp2_with fail
          clear zt0 zt1 zt2 zt3 ztb ztc ztl
          have HE := hidden (HR.call HN.out hdn hin hq285)
          have HRle := HR.le
          clear HR hdn hin
          have g288' := g288.below ((Below.refl _ _).drew)
          have m289 := m287.below ((Below.refl _ _).drew)
          clear m287
          have g290 := g288'
          clear g288' g288
          have q291 := g290.c1
          have q292 := g290.lt
          go_region_held2 (fun w' => w'.cell? ⟨w.heap.size, 1, none⟩ = some (.int .i64 (hd R).pos))
            (first | assumption | exact cell_alloc_drew _ (Held.c1 (by assumption)) | exact cell_alloc' _ (Held.c1 (by assumption)) | go_keep)
            (first
              | (go_at_call 125
                 have HChc293 : Hid (pRun n (.list lv [41] 64 .assign 0) Ri.tail ≠ .out) := fun e => HN.out (by simp [HE.out, Res.bind, e])
                 refine (list_assign n ih m289.ps m289.rem (m289.lv HL.out) hle [41] 64 (by decide) 0 HChc293.out (fun e => nomatch e)).mono ?_
                 rintro e w294 hpost
                 rcases hc293 : pRun n (.list lv [41] 64 .assign 0) Ri.tail with ⟨tshc293, Rhc293⟩ | ⟨en, p⟩ | _
                 rotate_left
                 · rw [hc293] at hpost
                   have hb2 := Bad.trans m289.fr hpost
                   obtain ⟨rfl, _⟩ := hpost
                   exact ⟨rfl, PostN.bad hb2 (by simp [HE.out, Res.bind, hc293])⟩
                 · exact absurd hc293 HChc293.out
                 rw [hc293] at hpost
                 obtain ⟨shc293, vhc293, khc293, rfl, mm, l295⟩ := hpost
                 have m296 := m289.call mm
                 have lt297 := g290.lt
                 have g290' := g290.fr mm.fr
                 have g298 := g290'
                 clear g290' g290
                 have nb299 : vhc293.ownBlock ≠ some w.heap.size := fun e => by have h1 := (l295.new _ e).2.1; have h2 := lt297; omega
                 have l300 := l295.older m289.fr.size
                 clear l295
                 have Hhc293 := hidden hc293
                 clear mm m289 hc293 HChc293
                 clear q291
                 clear q292
                 have q301 := g298.c1
                 have q302 := g298.lt)
              | (skip
                 have nb304 : (Value.slice (some ⟨w294.heap.size, 0, none⟩) 1 1).ownBlock ≠ some w.heap.size := by have : w.heap.size < w294.heap.size := g298.lt; simp [Value.ownBlock]; omega
                 have nb305 : ∀ k, (vhc293 : Value).ownBlock = some k → (Value.slice (some ⟨w294.heap.size, 0, none⟩) 1 1).ownBlock ≠ some k := fun k e => by have := (l300.row.lt k e).2; simp [Value.ownBlock]; omega
                 have l303 : Lst c w (w294.alloc (.cells #[.int .i64 kk] 3)) _ (.slice (some ⟨w294.heap.size, 0, none⟩) 1 1) [kk] := Lst.made m296 [kk] (by simp)
                 have l300' := l300.below ((Below.refl _ _).alloc (Nat.le_refl _) (.cells #[.int .i64 kk] 3))
                 have g298' := g298.below ((Below.refl _ _).alloc (Nat.le_refl _) (.cells #[.int .i64 kk] 3))
                 have m306 := m296.below ((Below.refl _ _).alloc (Nat.le_refl _) (.cells #[.int .i64 kk] 3))
                 clear m296
                 have l307 := l300'
                 clear l300' l300
                 have g308 := g298'
                 clear g298' g298
                 generalize w294.alloc (.cells #[.int .i64 kk] 3) = w309 at m306 l303 l307 g308 ⊢
                 have hbase := m306.ps.bp_lt
                 have hkl := m306.kids_le
                 have l0 : Lst c w w309 (shc293) (.slice (some ⟨w294.heap.size, 0, none⟩) 1 1) [kk] := l303
                 have l9 : Lst c w w309 (shc293) vhc293 khc293 := l307
                 refine step_append_spread (by rfl) _ _ _ (by rfl) (c.bp + 1) (c.bp + 1) 3 i0 _ 8 Tryz.underlying30 hi0 hz0 hz1 hz2 rfl (.slice (some ⟨w294.heap.size, 0, none⟩) 1 1) ([kk]).length (ints [kk]) (by rfl) l0.row (by simp) vhc293 (khc293).length (ints khc293) (by rfl) l9.row (ints_one _) (by unfold maxLen; first | omega | (simp at hkl ⊢; done) | (simp at hkl ⊢; omega)) (by first | omega | (simp at hkl ⊢; done) | (simp at hkl ⊢; omega)) (by omega) w309.heap.size rfl ?_
                 intro g310 cap311 w312 hown hgrow hat
                 have nb315 : (Value.slice (some ⟨g310, 0, none⟩) (([kk]).length + (khc293).length) cap311).ownBlock ≠ some w.heap.size := by
                   intro e
                   have e' : g310 = w.heap.size := by simpa [Value.ownBlock] using e
                   rcases hat with h1 | h1
                   · exact nb304 (h1.trans (by rw [e']))
                   · have := g308.lt; omega
                 have g308' := g308.grown hgrow nb304
                 obtain ⟨m313, l314⟩ := Mid.spread m306 l0 hgrow hown (hat.imp id (by omega))
                 clear hown hgrow hat hbase hkl l0 l9 m306
                 have g316 := g308'
                 clear g308' g308
                 clear q301
                 clear q302
                 have q317 := g316.c1
                 have q318 := g316.lt)
              | (go_at_call 57
                 refine (node_mid m313 l314 h.room 36 (hd R).pos []).mono ?_
                 rintro e w319 ⟨s321, k320, rfl, m322, hp⟩
                 have g316' := g316.kept hp nb315
                 clear hp m313
                 have g323 := g316'
                 clear g316' g316
                 clear q317
                 clear q318
                 have q324 := g323.c1
                 have q325 := g323.lt)
              | (go_at_call 125
                 have hcm : (w286.alloc (.cells #[.int .i64 kk] 3)).drew = w286.drew.alloc (.cells #[.int .i64 kk] 3) := rfl
                 rw [hcm]
                 clear hcm
                 have nb327 : (Value.slice (some ⟨w286.heap.size, 0, none⟩) 1 1).ownBlock ≠ some w.heap.size := by have : w.heap.size < w286.heap.size := g290.lt; simp [Value.ownBlock]; omega
                 have l326 : Lst c w (w286.drew.alloc (.cells #[.int .i64 kk] 3)) _ (.slice (some ⟨w286.heap.size, 0, none⟩) 1 1) [kk] := Lst.made m289 [kk] (by simp)
                 have g290' := g290.below ((Below.refl _ _).alloc (Nat.le_refl _) (.cells #[.int .i64 kk] 3))
                 have m328 := m289.below ((Below.refl _ _).alloc (Nat.le_refl _) (.cells #[.int .i64 kk] 3))
                 clear m289
                 have g329 := g290'
                 clear g290' g290
                 generalize w286.drew.alloc (.cells #[.int .i64 kk] 3) = w330 at m328 l326 g329 ⊢
                 have HChc331 : Hid (pRun n (.list lv [41] 64 .assign 0) Ri.tail ≠ .out) := fun e => HN.out (by simp [HE.out, Res.bind, e])
                 refine (list_assign n ih m328.ps m328.rem (m328.lv HL.out) hle [41] 64 (by decide) 0 HChc331.out (fun e => nomatch e)).mono ?_
                 rintro e w332 hpost
                 rcases hc331 : pRun n (.list lv [41] 64 .assign 0) Ri.tail with ⟨tshc331, Rhc331⟩ | ⟨en, p⟩ | _
                 rotate_left
                 · rw [hc331] at hpost
                   have hb2 := Bad.trans m328.fr hpost
                   obtain ⟨rfl, _⟩ := hpost
                   exact ⟨rfl, PostN.bad hb2 (by simp [HE.out, Res.bind, hc331])⟩
                 · exact absurd hc331 HChc331.out
                 rw [hc331] at hpost
                 obtain ⟨shc331, vhc331, khc331, rfl, mm, l333⟩ := hpost
                 have m334 := m328.call mm
                 have lt335 := g329.lt
                 have l326' := l326.fr mm.fr
                 have g329' := g329.fr mm.fr
                 have l336 := l326'
                 clear l326' l326
                 have g337 := g329'
                 clear g329' g329
                 have nb338 : vhc331.ownBlock ≠ some w.heap.size := fun e => by have h1 := (l333.new _ e).2.1; have h2 := lt335; omega
                 have l339 := l333.older m328.fr.size
                 clear l333
                 have Hhc331 := hidden hc331
                 clear mm m328 hc331 HChc331
                 clear q291
                 clear q292
                 have q340 := g337.c1
                 have q341 := g337.lt)
              | (skip
                 have hbase := m334.ps.bp_lt
                 have hkl := m334.kids_le
                 have l0 : Lst c w w332 (shc331) (.slice (some ⟨w286.heap.size, 0, none⟩) 1 1) [kk] := l336
                 have l9 : Lst c w w332 (shc331) vhc331 khc331 := l339
                 refine step_append_spread (by rfl) _ _ _ (by rfl) (c.bp + 1) (c.bp + 1) 3 i0 _ 8 Tryz.underlying30 hi0 hz0 hz1 hz2 rfl (.slice (some ⟨w286.heap.size, 0, none⟩) 1 1) ([kk]).length (ints [kk]) (by rfl) l0.row (by simp) vhc331 (khc331).length (ints khc331) (by rfl) l9.row (ints_one _) (by unfold maxLen; first | omega | (simp at hkl ⊢; done) | (simp at hkl ⊢; omega)) (by first | omega | (simp at hkl ⊢; done) | (simp at hkl ⊢; omega)) (by omega) w332.heap.size rfl ?_
                 intro g342 cap343 w344 hown hgrow hat
                 have nb347 : (Value.slice (some ⟨g342, 0, none⟩) (([kk]).length + (khc331).length) cap343).ownBlock ≠ some w.heap.size := by
                   intro e
                   have e' : g342 = w.heap.size := by simpa [Value.ownBlock] using e
                   rcases hat with h1 | h1
                   · exact nb327 (h1.trans (by rw [e']))
                   · have := g337.lt; omega
                 have g337' := g337.grown hgrow nb327
                 obtain ⟨m345, l346⟩ := Mid.spread m334 l0 hgrow hown (hat.imp id (by omega))
                 clear hown hgrow hat hbase hkl l0 l9 m334
                 have g348 := g337'
                 clear g337' g337
                 clear q340
                 clear q341
                 have q349 := g348.c1
                 have q350 := g348.lt)
              | (go_at_call 57
                 refine (node_mid m345 l346 h.room 36 (hd R).pos []).mono ?_
                 rintro e w351 ⟨s353, k352, rfl, m354, hp⟩
                 have g348' := g348.kept hp nb347
                 clear hp m345
                 have g355 := g348'
                 clear g348' g348
                 clear q349
                 clear q350
                 have q356 := g355.c1
                 have q357 := g355.lt))
          · skip
            clear q356
            clear q357
            have HR2 : PostAt n lv true (hd R).pos (postfixB (pRun n) lv true R) m (.node 36 (hd R).pos [] 0 (t :: tshc331)) Rhc331 := ⟨by omega, by simp [HE.out, Res.bind, Hhc331.out]⟩
            clear HE
            have zt0 := g355.c0
            have zt1 := g355.c1
            have zt2 := g355.c2
            have zt3 := g355.c3
            have ztb : ¬ w.heap.size = c.bp := fun e => g355.free (.inl e)
            have ztc : ¬ c.bp = w.heap.size := fun e => g355.free (.inl e.symm)
            have ztl := g355.lt
            go_wp2_with fail
            clear zt0 zt1 zt2 zt3 ztb ztc ztl
            go_roundg m
            case measure => omega
            case rel => exact ⟨_, _, _, _, _, rfl, m354, g355, HR2⟩
          · skip
            clear q356
            clear q357
            have HR2 : PostAt n lv true (hd R).pos (postfixB (pRun n) lv true R) m (.node 36 (hd R).pos [] 0 (t :: tshc331)) Rhc331 := ⟨by omega, by simp [HE.out, Res.bind, Hhc331.out]⟩
            clear HE
            have zt0 := g355.c0
            have zt1 := g355.c1
            have zt2 := g355.c2
            have zt3 := g355.c3
            have ztb : ¬ w.heap.size = c.bp := fun e => g355.free (.inl e)
            have ztc : ¬ c.bp = w.heap.size := fun e => g355.free (.inl e.symm)
            have ztl := g355.lt
            go_wp2_with fail
            clear zt0 zt1 zt2 zt3 ztb ztc ztl
            go_roundg m
            case measure => omega
            case rel => exact ⟨_, _, _, _, _, rfl, m354, g355, HR2⟩
          · skip
            clear q324
            clear q325
            have HR2 : PostAt n lv true (hd R).pos (postfixB (pRun n) lv true R) m (.node 36 (hd R).pos [] 0 (t :: tshc293)) Rhc293 := ⟨by omega, by simp [HE.out, Res.bind, Hhc293.out]⟩
            clear HE
            have zt0 := g323.c0
            have zt1 := g323.c1
            have zt2 := g323.c2
            have zt3 := g323.c3
            have ztb : ¬ w.heap.size = c.bp := fun e => g323.free (.inl e)
            have ztc : ¬ c.bp = w.heap.size := fun e => g323.free (.inl e.symm)
            have ztl := g323.lt
            go_wp2_with fail
            clear zt0 zt1 zt2 zt3 ztb ztc ztl
            go_roundg m
            case measure => omega
            case rel => exact ⟨_, _, _, _, _, rfl, m322, g323, HR2⟩
        · refine (take_no m283.ps m283.rem [40] (by simpa using hq285)).mono ?_
          rintro e w358 ⟨rfl, hb⟩
          have g284' := g284.below hb
          have m359 := m283.below hb
          clear m283
          have g360 := g284'
          clear g284' g284
          clear hb
          have zt0 := g360.c0
          have zt1 := g360.c1
          have zt2 := g360.c2
          have zt3 := g360.c3
          have ztb : ¬ w.heap.size = c.bp := fun e => g360.free (.inl e)
          have ztc : ¬ c.bp = w.heap.size := fun e => g360.free (.inl e.symm)
          have ztl := g360.lt
          go_wp2_with fail
          clear zt0 zt1 zt2 zt3 ztb ztc ztl
          have HE := hidden (HR.stop hdn hin (by simpa using hq285))
          clear HR
          go_ret
          exact PostN.fin m359 HE.out

end Go.Proofs.YtgdamcmfdhhheaaGreatDoor
