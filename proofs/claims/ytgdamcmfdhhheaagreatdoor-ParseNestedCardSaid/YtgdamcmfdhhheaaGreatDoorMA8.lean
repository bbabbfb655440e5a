/- What stands behind a value, walked. -/
import Derived.Test.YtgdamcmfdhhheaaGreatDoorMA7
import Derived.Deep.LoopGhost
import Derived.Deep.RegionHeld2
import Derived.Deep.RegionWith
import Derived.Deep.AppendLies
set_option linter.all false

namespace Go.Proofs.YtgdamcmfdhhheaaGreatDoor
open Go.RowKit Bf

set_option maxRecDepth 100000 in
set_option maxHeartbeats 20000000 in
theorem postfix_false (n : Nat) (ih : All n) : CallN 152 [.bool false] (fun lv => .postfix_ lv false) (n + 1) := by
  intro c w s R lv h hr hlv hle hne
  change Calls _ _ #[.pointer (some ⟨c.bp, 0, none⟩), .bool false] w (PostN c w s (postfixB (pRun n) lv false R))
  have HN : Hid (postfixB (pRun n) lv false R ≠ .out) := hne
  have HL : Hid (s.lv = (lv : Int)) := hlv
  clear hne hlv
  have m0 := Mid.start h hr
  clear hr
  obtain ⟨i0, hi0, hz0, hz1, hz2⟩ := info_parts Tryz.infoInt
  have hmf : ∀ (fn : Fn) (first cap : Array Value) (w : World), (Instr.makeFunc fn first cap).run Tryz.prog w = .ok (.func fn first cap) w := fun _ _ _ _ => rfl
  go_enter Tryz.func152, Tryz.ntmps152
  have h0 := m0.ps.c0
  have h1 := m0.ps.c1
  have hbp := m0.ps.bp_lt
  have hbl := m0.ps.bl_lt
  have hi := m0.ps.i
  have hlen := m0.ps.len
  have t0 := m0.ps.t0 m0.rem
  have t1 := m0.ps.t1 m0.rem
  have t2 := m0.ps.t2 m0.rem
  have t3 := m0.ps.t3 m0.rem
  go_wp2
  go_region
  clear h0 h1 hbp hbl hi hlen t0 t1 t2 t3
  obtain ⟨m2, g1⟩ := m0.held
  clear m0
  change Mid c w s ((w.alloc (.cells #[.int .u8 (hd R).kind, .int .i64 (hd R).pos, .string ⟨(hd R).text.toArray⟩, .float .f64 (hd R).num] 59)).drew) _ _ _ _ _ at m2
  change Held c ((w.alloc (.cells #[.int .u8 (hd R).kind, .int .i64 (hd R).pos, .string ⟨(hd R).text.toArray⟩, .float .f64 (hd R).num] 59)).drew) _ _ _ at g1
  generalize ((w.alloc (.cells #[.int .u8 (hd R).kind, .int .i64 (hd R).pos, .string ⟨(hd R).text.toArray⟩, .float .f64 (hd R).num] 59)).drew) = w3 at m2 g1 ⊢
  have zt0 := g1.c0
  have zt1 := g1.c1
  have zt2 := g1.c2
  have zt3 := g1.c3
  have ztb : ¬ w.heap.size = c.bp := fun e => g1.free (.inl e)
  have ztc : ¬ c.bp = w.heap.size := fun e => g1.free (.inl e.symm)
  have ztl := g1.lt
  go_wp2_with fail
  clear zt0 zt1 zt2 zt3 ztb ztc ztl
  refine (is_calls m2.ps m2.rem [110, 101, 119]).mono ?_
  rintro e w5 ⟨rfl, hb⟩
  have g1' := g1.below hb
  have m6 := m2.below hb
  clear m2
  have g7 := g1'
  clear g1' g1
  clear hb
  by_cases hq4 : isTok (hd R) [110, 101, 119] = true
  · skip
    have zt0 := g7.c0
    have zt1 := g7.c1
    have zt2 := g7.c2
    have zt3 := g7.c3
    have ztb : ¬ w.heap.size = c.bp := fun e => g7.free (.inl e)
    have ztc : ¬ c.bp = w.heap.size := fun e => g7.free (.inl e.symm)
    have ztl := g7.lt
    go_wp2_with fail
    clear zt0 zt1 zt2 zt3 ztb ztc ztl
    by_cases h200 : 200 < lv + 1
    · refine (deeper_no m6.ps m6.rem (m6.lv HL.out) h200 (by omega)).mono ?_
      rintro e wz post
      have hb2 := Bad.trans m6.fr post
      obtain ⟨rfl, _⟩ := post
      exact ⟨rfl, PostN.bad hb2 (by simp [postfixB, Res.bind, fail, ok1, need, hq4, h200, fail])⟩
    have hleD : lv + 1 ≤ 200 := by omega
    refine (deeper_ok m6.ps (m6.lv HL.out) h200).mono ?_
    rintro e wD ⟨rfl, hp, hf0, hbx, hsz⟩
    have ubD : Box c wD (s.at_ ((lv : Int) + 1)) w5.heap.size := Fr.box m6.ps hf0 hbx (fun _ h => h)
    have mD := Mid.start hp m6.rem
    have HLD : Hid ((s.at_ ((lv : Int) + 1)).lv = ((lv + 1 : Nat) : Int)) := hidden (by simp [St.at_])
    have hroomD : (s.at_ ((lv : Int) + 1)).ns.length ≤ (s.at_ ((lv : Int) + 1)).i + 1 := h.room
    have hf := m6.fr.trans hf0
    have hfF : FrB c w s wD (s.at_ ((lv : Int) + 1)) := ⟨hf⟩
    have gtD := g7.fr hf0
    clear hp hbx hsz hf0 m6 g7
    generalize w5.heap.size = BX at ubD ⊢
    have zt0 := gtD.c0
    have zt1 := gtD.c1
    have zt2 := gtD.c2
    have zt3 := gtD.c3
    have ztb : ¬ w.heap.size = c.bp := fun e => gtD.free (.inl e)
    have ztc : ¬ c.bp = w.heap.size := fun e => gtD.free (.inl e.symm)
    have ztl := gtD.lt
    have hmore := mD.ps.more mD.rem (by intro e; simp [isTok, e] at hq4)
    have h1 := mD.ps.c1
    have fz1 := mD.ps.fz 1
    have hlen := mD.ps.len
    have hnx := mD.ps.next hmore
    have m8 := mD.next hnx.1 hnx.2
    have gtD' := gtD.fr hnx.2
    have ubD' := ubD.fr hnx.2
    have g9 := gtD'
    clear gtD' gtD
    have u10 := ubD'
    clear ubD' ubD
    go_wp2_with fail
    clear h1 fz1 hlen hnx hmore zt0 zt1 zt2 zt3 ztb ztc ztl mD
    generalize (wD.setCell ⟨c.bp, 1, none⟩ (.int .i64 ((((s.at_ ((lv : Int) + 1))).i : Int) + 1))) = w11 at m8 g9 u10 ⊢
    have HChc12 : Hid (pRun n (.postfix_ (lv + 1) false) R.tail ≠ .out) := fun e => HN.out (by simp [postfixB, Res.bind, fail, ok1, need, hq4, h200, e])
    refine (ih.postfix_ false _ _ _ _ _ m8.ps m8.rem (m8.lv HLD.out) hleD HChc12.out).mono ?_
    rintro e w13 hpost
    rcases hc12 : pRun n (.postfix_ (lv + 1) false) R.tail with ⟨tshc12, Rhc12⟩ | ⟨en, p⟩ | _
    rotate_left
    · rw [hc12] at hpost
      have hb2 := Bad.trans hfF.fr (Bad.trans m8.fr hpost)
      obtain ⟨rfl, _⟩ := hpost
      exact ⟨rfl, PostN.bad hb2 (by simp [postfixB, Res.bind, fail, ok1, need, hq4, h200, hc12])⟩
    · exact absurd hc12 HChc12.out
    rw [hc12] at hpost
    obtain ⟨shc12, khc12, thc12, rfl, rfl, mm⟩ := hpost
    have m14 := m8.call mm
    have g9' := g9.fr mm.fr
    have u10' := u10.fr mm.fr
    have g15 := g9'
    clear g9' g9
    have u16 := u10'
    clear u10' u10
    have Hhc12 := hidden hc12
    clear mm m8 hc12 HChc12
    have zt0 := g15.c0
    have zt1 := g15.c1
    have zt2 := g15.c2
    have zt3 := g15.c3
    have ztb : ¬ w.heap.size = c.bp := fun e => g15.free (.inl e)
    have ztc : ¬ c.bp = w.heap.size := fun e => g15.free (.inl e.symm)
    have ztl := g15.lt
    go_wp2_with fail
    clear zt0 zt1 zt2 zt3 ztb ztc ztl
    have nb18 : (Value.slice (some ⟨w13.heap.size, 0, none⟩) 1 1).ownBlock ≠ some w.heap.size := by have : w.heap.size < w13.heap.size := g15.lt; simp [Value.ownBlock]; omega
    have nb19 : (Value.slice (some ⟨w13.heap.size, 0, none⟩) 1 1).ownBlock ≠ some BX := by have : BX < w13.heap.size := u16.lt; simp [Value.ownBlock]; omega
    have l17 : Lst c wD (w13.alloc (.cells #[.int .i64 khc12] 3)) _ (.slice (some ⟨w13.heap.size, 0, none⟩) 1 1) [khc12] := Lst.made m14 [khc12] (by simp)
    have g15' := g15.below ((Below.refl _ _).alloc (Nat.le_refl _) (.cells #[.int .i64 khc12] 3))
    have u16' := u16.below ((Below.refl _ _).alloc (Nat.le_refl _) (.cells #[.int .i64 khc12] 3))
    have m20 := m14.below ((Below.refl _ _).alloc (Nat.le_refl _) (.cells #[.int .i64 khc12] 3))
    clear m14
    have g21 := g15'
    clear g15' g15
    have u22 := u16'
    clear u16' u16
    generalize w13.alloc (.cells #[.int .i64 khc12] 3) = w23 at m20 l17 g21 u22 ⊢
    have zt0 := g21.c0
    have zt1 := g21.c1
    have zt2 := g21.c2
    have zt3 := g21.c3
    have ztb : ¬ w.heap.size = c.bp := fun e => g21.free (.inl e)
    have ztc : ¬ c.bp = w.heap.size := fun e => g21.free (.inl e.symm)
    have ztl := g21.lt
    go_wp2_with fail
    clear zt0 zt1 zt2 zt3 ztb ztc ztl
    refine (up_calls m20.ps BX u22.cell (lv := lv) (by rw [m20.lv HLD.out]; push_cast; rfl) (by omega)).mono ?_
    rintro e we ⟨rfl, hp, hfe⟩
    rw [← HL.out] at hp hfe
    have mE := Mid.down hf m20 hp hfe
    have lE := (Lst.base (w := w) l17 hf.size).fr hfe
    have gE := g21.fr hfe
    clear hp hfe hf m20 l17 g21 u22
    have zt0 := gE.c0
    have zt1 := gE.c1
    have zt2 := gE.c2
    have zt3 := gE.c3
    have ztb : ¬ w.heap.size = c.bp := fun e => gE.free (.inl e)
    have ztc : ¬ c.bp = w.heap.size := fun e => gE.free (.inl e.symm)
    have ztl := gE.lt
    go_wp2_with fail
    clear zt0 zt1 zt2 zt3 ztb ztc ztl
    by_cases hx24 : isTok (hd Rhc12) [40] = true
    rotate_left
    · refine (need_no mE.ps mE.rem [40] (by simpa using hx24)).mono ?_
      rintro e wz hbad
      have hb2 := Bad.trans mE.fr hbad
      obtain ⟨rfl, _⟩ := hbad
      exact ⟨rfl, PostN.bad hb2 (by simp [postfixB, Res.bind, fail, ok1, need, hq4, h200, Hhc12.out, hx24])⟩
    refine (need_yes mE.ps mE.rem [40] hx24).mono ?_
    rintro e w25 ⟨rfl, hp, hf⟩
    have m26 := mE.next hp hf
    have lE' := lE.fr hf
    have gE' := gE.fr hf
    have l27 := lE'
    clear lE' lE
    have g28 := gE'
    clear gE' gE
    clear hp hf mE
    have zt0 := g28.c0
    have zt1 := g28.c1
    have zt2 := g28.c2
    have zt3 := g28.c3
    have ztb : ¬ w.heap.size = c.bp := fun e => g28.free (.inl e)
    have ztc : ¬ c.bp = w.heap.size := fun e => g28.free (.inl e.symm)
    have ztl := g28.lt
    go_wp2_with fail
    clear zt0 zt1 zt2 zt3 ztb ztc ztl
    have l27' := l27.below ((Below.refl _ _).drew)
    have g28' := g28.below ((Below.refl _ _).drew)
    have m29 := m26.below ((Below.refl _ _).drew)
    clear m26
    have l30 := l27'
    clear l27' l27
    have g31 := g28'
    clear g28' g28
    have q32 := g31.c1
    have q33 := g31.lt
    go_region_held2 (fun w' => w'.cell? ⟨w.heap.size, 1, none⟩ = some (.int .i64 (hd R).pos))
      (first | assumption | go_keep)
      (first
        | (go_at_call 125
           have HChc34 : Hid (pRun n (.list lv [41] 64 .assign 0) Rhc12.tail ≠ .out) := fun e => HN.out (by simp [postfixB, Res.bind, fail, ok1, need, hq4, h200, Hhc12.out, hx24, e])
           refine (list_assign n ih m29.ps m29.rem (m29.lv HL.out) hle [41] 64 (by decide) 0 HChc34.out (fun e => nomatch e)).mono ?_
           rintro e w35 hpost
           rcases hc34 : pRun n (.list lv [41] 64 .assign 0) Rhc12.tail with ⟨tshc34, Rhc34⟩ | ⟨en, p⟩ | _
           rotate_left
           · rw [hc34] at hpost
             have hb2 := Bad.trans m29.fr hpost
             obtain ⟨rfl, _⟩ := hpost
             exact ⟨rfl, PostN.bad hb2 (by simp [postfixB, Res.bind, fail, ok1, need, hq4, h200, Hhc12.out, hx24, hc34])⟩
           · exact absurd hc34 HChc34.out
           rw [hc34] at hpost
           obtain ⟨shc34, vhc34, khc34, rfl, mm, l36⟩ := hpost
           have m37 := m29.call mm
           have lt38 := g31.lt
           have l30' := l30.fr mm.fr
           have g31' := g31.fr mm.fr
           have l39 := l30'
           clear l30' l30
           have g40 := g31'
           clear g31' g31
           have nb41 : vhc34.ownBlock ≠ some w.heap.size := fun e => by have h1 := (l36.new _ e).2.1; have h2 := lt38; omega
           have l42 := l36.older m29.fr.size
           clear l36
           have Hhc34 := hidden hc34
           clear mm m29 hc34 HChc34
           clear q32
           clear q33
           have q43 := g40.c1
           have q44 := g40.lt)
        | (go_at_call 57
           refine (node_mid m48 l49 h.room 37 (hd R).pos []).mono ?_
           rintro e w54 ⟨s56, k55, rfl, m57, hp⟩
           have g51' := g51.kept hp nb50
           clear hp m48
           have g58 := g51'
           clear g51' g51
           clear q52
           clear q53
           have q59 := g58.c1
           have q60 := g58.lt)
        | (skip
           have hbase := m37.ps.bp_lt
           have hkl := m37.kids_le
           have l0 : Lst c w w35 (shc34) (.slice (some ⟨w13.heap.size, 0, none⟩) 1 1) [khc12] := l39
           have l9 : Lst c w w35 (shc34) vhc34 khc34 := l42
           refine step_append_spread (by rfl) _ _ _ (by rfl) (c.bp + 1) (c.bp + 1) 3 i0 _ 8 Tryz.underlying30 hi0 hz0 hz1 hz2 rfl (.slice (some ⟨w13.heap.size, 0, none⟩) 1 1) ([khc12]).length (ints [khc12]) (by rfl) l0.row (by simp) vhc34 (khc34).length (ints khc34) (by rfl) l9.row (ints_one _) (by unfold maxLen; first | omega | (simp at hkl ⊢; done) | (simp at hkl ⊢; omega)) (by first | omega | (simp at hkl ⊢; done) | (simp at hkl ⊢; omega)) (by omega) w35.heap.size rfl ?_
           intro g45 cap46 w47 hown hgrow hat
           have nb50 : (Value.slice (some ⟨g45, 0, none⟩) (([khc12]).length + (khc34).length) cap46).ownBlock ≠ some w.heap.size := by
             intro e
             have e' : g45 = w.heap.size := by simpa [Value.ownBlock] using e
             rcases hat with h1 | h1
             · exact nb18 (h1.trans (by rw [e']))
             · have := g40.lt; omega
           have g40' := g40.grown hgrow nb18
           obtain ⟨m48, l49⟩ := Mid.spread m37 l0 hgrow hown (hat.imp id (by omega))
           clear hown hgrow hat hbase hkl l0 l9 m37
           have g51 := g40'
           clear g40' g40
           clear q43
           clear q44
           have q52 := g51.c1
           have q53 := g51.lt))
    clear q59
    clear q60
    have HB : PostAt n lv false (hd R).pos (postfixB (pRun n) lv false R) n (.node 37 (hd R).pos [] 0 (thc12 :: tshc34)) Rhc34 := ⟨Nat.le_refl _, by simp [postfixB, Res.bind, fail, ok1, need, hq4, h200, Hhc12.out, hx24, Hhc34.out]⟩
    have zt0 := g58.c0
    have zt1 := g58.c1
    have zt2 := g58.c2
    have zt3 := g58.c3
    have ztb : ¬ w.heap.size = c.bp := fun e => g58.free (.inl e)
    have ztc : ¬ c.bp = w.heap.size := fun e => g58.free (.inl e.symm)
    have ztl := g58.lt
    go_wp2_with fail
    clear zt0 zt1 zt2 zt3 ztb ztc ztl
    go_loopg [6] n (fun m u wr => ∃ (kk : Nat), ∃ si Ri t d, .int .i64 kk = u ∧ Mid c w s wr si Ri [t] [kk] d ∧ Held c wr si w.heap.size (hd R) ∧ PostAt n lv false (hd R).pos (postfixB (pRun n) lv false R) m t Ri)
    case atStart => exact ⟨_, _, _, _, _, rfl, m57, g58, HB⟩
    case round =>
      obtain ⟨kk, si, Ri, t, d, rfl, mr, gt, HR⟩ := hrel
      clear m57 g58 HB
      obtain ⟨m, rfl⟩ := HR.pos HN.out
      have zt0 := gt.c0
      have zt1 := gt.c1
      have zt2 := gt.c2
      have zt3 := gt.c3
      have ztb : ¬ w.heap.size = c.bp := fun e => gt.free (.inl e)
      have ztc : ¬ c.bp = w.heap.size := fun e => gt.free (.inl e.symm)
      have ztl := gt.lt
      go_wp2_with fail
      clear zt0 zt1 zt2 zt3 ztb ztc ztl
      by_cases hq61 : isTok (hd Ri) [46] = true
      · refine (take_yes mr.ps mr.rem [46] hq61).mono ?_
        rintro e w62 ⟨rfl, hp, hf⟩
        have m63 := mr.next hp hf
        have gt' := gt.fr hf
        have g64 := gt'
        clear gt' gt
        clear hp hf mr
        have zt0 := g64.c0
        have zt1 := g64.c1
        have zt2 := g64.c2
        have zt3 := g64.c3
        have ztb : ¬ w.heap.size = c.bp := fun e => g64.free (.inl e)
        have ztc : ¬ c.bp = w.heap.size := fun e => g64.free (.inl e.symm)
        have ztl := g64.lt
        go_wp2_with fail
        clear zt0 zt1 zt2 zt3 ztb ztc ztl
        have h0 := m63.ps.c0
        have h1 := m63.ps.c1
        have hbp := m63.ps.bp_lt
        have hbl := m63.ps.bl_lt
        have hi := m63.ps.i
        have hlen := m63.ps.len
        have t0 := m63.ps.t0 m63.rem
        have t1 := m63.ps.t1 m63.rem
        have t2 := m63.ps.t2 m63.rem
        have t3 := m63.ps.t3 m63.rem
        go_wp2
        go_region
        clear h0 h1 hbp hbl hi hlen t0 t1 t2 t3
        have g64' := g64.below (((Below.refl _ _).alloc (Nat.le_refl _) (.cells #[.int .u8 (hd Ri.tail).kind, .int .i64 (hd Ri.tail).pos, .string ⟨(hd Ri.tail).text.toArray⟩, .float .f64 (hd Ri.tail).num] 59)).drew)
        obtain ⟨m66, g65⟩ := m63.held
        clear m63
        change Mid c w s ((w62.alloc (.cells #[.int .u8 (hd Ri.tail).kind, .int .i64 (hd Ri.tail).pos, .string ⟨(hd Ri.tail).text.toArray⟩, .float .f64 (hd Ri.tail).num] 59)).drew) _ _ _ _ _ at m66
        change Held c ((w62.alloc (.cells #[.int .u8 (hd Ri.tail).kind, .int .i64 (hd Ri.tail).pos, .string ⟨(hd Ri.tail).text.toArray⟩, .float .f64 (hd Ri.tail).num] 59)).drew) _ _ _ at g65
        generalize ((w62.alloc (.cells #[.int .u8 (hd Ri.tail).kind, .int .i64 (hd Ri.tail).pos, .string ⟨(hd Ri.tail).text.toArray⟩, .float .f64 (hd Ri.tail).num] 59)).drew) = w67 at m66 g65 g64' ⊢
        have g68 := g64'
        clear g64' g64
        by_cases hk69 : ((hd Ri.tail).kind == 1) = true
        · have hk69a : (((hd Ri.tail).kind : Int) == 1) = true := by rw [← hk69]; exact beqK _ 1
          have hk69b : ((hd Ri.tail).kind : Int) = 1 := by simp at hk69; omega
          have hk69c : (((hd Ri.tail).kind : Int) != 1) = false := by simp only [bne, hk69a]; rfl
          have HR2 := HR.dot hq61 (.inl hk69)
          clear HR
          have zt0 := g68.c0
          have zt1 := g68.c1
          have zt2 := g68.c2
          have zt3 := g68.c3
          have ztb : ¬ w.heap.size = c.bp := fun e => g68.free (.inl e)
          have ztc : ¬ c.bp = w.heap.size := fun e => g68.free (.inl e.symm)
          have ztl := g68.lt
          have zw0 := g65.c0
          have zw1 := g65.c1
          have zw2 := g65.c2
          have zw3 := g65.c3
          have zwb : ¬ w62.heap.size = c.bp := fun e => g65.free (.inl e)
          have zwc : ¬ c.bp = w62.heap.size := fun e => g65.free (.inl e.symm)
          have zwl := g65.lt
          have hmore := m66.ps.more m66.rem (by simp at hk69; omega)
          have h1 := m66.ps.c1
          have fz1 := m66.ps.fz 1
          have hlen := m66.ps.len
          have hnx := m66.ps.next hmore
          have m70 := m66.next hnx.1 hnx.2
          have g68' := g68.fr hnx.2
          have g65' := g65.fr hnx.2
          have g71 := g68'
          clear g68' g68
          have g72 := g65'
          clear g65' g65
          go_wp2_with fail
          clear h1 fz1 hlen hnx hmore zt0 zt1 zt2 zt3 ztb ztc ztl zw0 zw1 zw2 zw3 zwb zwc zwl m66
          have hszz : w67.heap.size = (w67.setCell ⟨c.bp, 1, none⟩ (.int .i64 ((((si).next).i : Int) + 1))).heap.size := by simp [World.setCell]
          generalize (w67.setCell ⟨c.bp, 1, none⟩ (.int .i64 ((((si).next).i : Int) + 1))) = w73 at hszz m70 g71 g72 ⊢
          rw [hszz]
          clear hszz
          have nb75 : (Value.slice (some ⟨w73.heap.size, 0, none⟩) 1 1).ownBlock ≠ some w.heap.size := by have : w.heap.size < w73.heap.size := g71.lt; simp [Value.ownBlock]; omega
          have nb76 : (Value.slice (some ⟨w73.heap.size, 0, none⟩) 1 1).ownBlock ≠ some w62.heap.size := by have : w62.heap.size < w73.heap.size := g72.lt; simp [Value.ownBlock]; omega
          have l74 : Lst c w (w73.alloc (.cells #[.int .i64 kk] 3)) _ (.slice (some ⟨w73.heap.size, 0, none⟩) 1 1) [kk] := Lst.made m70 [kk] (by simp)
          have g71' := g71.below ((Below.refl _ _).alloc (Nat.le_refl _) (.cells #[.int .i64 kk] 3))
          have g72' := g72.below ((Below.refl _ _).alloc (Nat.le_refl _) (.cells #[.int .i64 kk] 3))
          have m77 := m70.below ((Below.refl _ _).alloc (Nat.le_refl _) (.cells #[.int .i64 kk] 3))
          clear m70
          have g78 := g71'
          clear g71' g71
          have g79 := g72'
          clear g72' g72
          generalize w73.alloc (.cells #[.int .i64 kk] 3) = w80 at m77 l74 g78 g79 ⊢
          refine (node_mid m77 l74 h.room 34 (hd R).pos (hd Ri.tail).text).mono ?_
          rintro e w81 ⟨s83, k82, rfl, m84, hp⟩
          have g78' := g78.kept hp nb75
          have g79' := g79.kept hp nb76
          clear hp m77
          have g85 := g78'
          clear g78' g78
          have g86 := g79'
          clear g79' g79
          have zt0 := g85.c0
          have zt1 := g85.c1
          have zt2 := g85.c2
          have zt3 := g85.c3
          have ztb : ¬ w.heap.size = c.bp := fun e => g85.free (.inl e)
          have ztc : ¬ c.bp = w.heap.size := fun e => g85.free (.inl e.symm)
          have ztl := g85.lt
          go_wp2_with fail
          clear zt0 zt1 zt2 zt3 ztb ztc ztl
          go_roundg m
          case measure => omega
          case rel => exact ⟨_, _, _, _, _, rfl, m84, g85, HR2⟩
        · have hk69n : ((hd Ri.tail).kind == 1) = false := by simpa using hk69
          have hk69a : (((hd Ri.tail).kind : Int) == 1) = false := by rw [← hk69n]; exact beqK _ 1
          have hk69b : ¬ ((hd Ri.tail).kind : Int) = 1 := by simp at hk69; omega
          clear hk69
          have hk69c : (((hd Ri.tail).kind : Int) != 1) = true := by simp only [bne, hk69a]; rfl
          by_cases hk87 : ((hd Ri.tail).kind == 2) = true
          · have hk87a : (((hd Ri.tail).kind : Int) == 2) = true := by rw [← hk87]; exact beqK _ 2
            have hk87b : ((hd Ri.tail).kind : Int) = 2 := by simp at hk87; omega
            have hk87c : (((hd Ri.tail).kind : Int) != 2) = false := by simp only [bne, hk87a]; rfl
            have HR2 := HR.dot hq61 (.inr hk87)
            clear HR
            have zt0 := g68.c0
            have zt1 := g68.c1
            have zt2 := g68.c2
            have zt3 := g68.c3
            have ztb : ¬ w.heap.size = c.bp := fun e => g68.free (.inl e)
            have ztc : ¬ c.bp = w.heap.size := fun e => g68.free (.inl e.symm)
            have ztl := g68.lt
            have zw0 := g65.c0
            have zw1 := g65.c1
            have zw2 := g65.c2
            have zw3 := g65.c3
            have zwb : ¬ w62.heap.size = c.bp := fun e => g65.free (.inl e)
            have zwc : ¬ c.bp = w62.heap.size := fun e => g65.free (.inl e.symm)
            have zwl := g65.lt
            have hmore := m66.ps.more m66.rem (by simp at hk87; omega)
            have h1 := m66.ps.c1
            have fz1 := m66.ps.fz 1
            have hlen := m66.ps.len
            have hnx := m66.ps.next hmore
            have m88 := m66.next hnx.1 hnx.2
            have g68' := g68.fr hnx.2
            have g65' := g65.fr hnx.2
            have g89 := g68'
            clear g68' g68
            have g90 := g65'
            clear g65' g65
            go_wp2_with fail
            clear h1 fz1 hlen hnx hmore zt0 zt1 zt2 zt3 ztb ztc ztl zw0 zw1 zw2 zw3 zwb zwc zwl m66
            have hszz : w67.heap.size = (w67.setCell ⟨c.bp, 1, none⟩ (.int .i64 ((((si).next).i : Int) + 1))).heap.size := by simp [World.setCell]
            generalize (w67.setCell ⟨c.bp, 1, none⟩ (.int .i64 ((((si).next).i : Int) + 1))) = w91 at hszz m88 g89 g90 ⊢
            rw [hszz]
            clear hszz
            have nb93 : (Value.slice (some ⟨w91.heap.size, 0, none⟩) 1 1).ownBlock ≠ some w.heap.size := by have : w.heap.size < w91.heap.size := g89.lt; simp [Value.ownBlock]; omega
            have nb94 : (Value.slice (some ⟨w91.heap.size, 0, none⟩) 1 1).ownBlock ≠ some w62.heap.size := by have : w62.heap.size < w91.heap.size := g90.lt; simp [Value.ownBlock]; omega
            have l92 : Lst c w (w91.alloc (.cells #[.int .i64 kk] 3)) _ (.slice (some ⟨w91.heap.size, 0, none⟩) 1 1) [kk] := Lst.made m88 [kk] (by simp)
            have g89' := g89.below ((Below.refl _ _).alloc (Nat.le_refl _) (.cells #[.int .i64 kk] 3))
            have g90' := g90.below ((Below.refl _ _).alloc (Nat.le_refl _) (.cells #[.int .i64 kk] 3))
            have m95 := m88.below ((Below.refl _ _).alloc (Nat.le_refl _) (.cells #[.int .i64 kk] 3))
            clear m88
            have g96 := g89'
            clear g89' g89
            have g97 := g90'
            clear g90' g90
            generalize w91.alloc (.cells #[.int .i64 kk] 3) = w98 at m95 l92 g96 g97 ⊢
            refine (node_mid m95 l92 h.room 34 (hd R).pos (hd Ri.tail).text).mono ?_
            rintro e w99 ⟨s101, k100, rfl, m102, hp⟩
            have g96' := g96.kept hp nb93
            have g97' := g97.kept hp nb94
            clear hp m95
            have g103 := g96'
            clear g96' g96
            have g104 := g97'
            clear g97' g97
            have zt0 := g103.c0
            have zt1 := g103.c1
            have zt2 := g103.c2
            have zt3 := g103.c3
            have ztb : ¬ w.heap.size = c.bp := fun e => g103.free (.inl e)
            have ztc : ¬ c.bp = w.heap.size := fun e => g103.free (.inl e.symm)
            have ztl := g103.lt
            go_wp2_with fail
            clear zt0 zt1 zt2 zt3 ztb ztc ztl
            go_roundg m
            case measure => omega
            case rel => exact ⟨_, _, _, _, _, rfl, m102, g103, HR2⟩
          · have hk87n : ((hd Ri.tail).kind == 2) = false := by simpa using hk87
            have hk87a : (((hd Ri.tail).kind : Int) == 2) = false := by rw [← hk87n]; exact beqK _ 2
            have hk87b : ¬ ((hd Ri.tail).kind : Int) = 2 := by simp at hk87; omega
            clear hk87
            have hk87c : (((hd Ri.tail).kind : Int) != 2) = true := by simp only [bne, hk87a]; rfl
            have HE := hidden (HR.dotBad hq61 hk69n hk87n)
            clear HR
            have zt0 := g68.c0
            have zt1 := g68.c1
            have zt2 := g68.c2
            have zt3 := g68.c3
            have ztb : ¬ w.heap.size = c.bp := fun e => g68.free (.inl e)
            have ztc : ¬ c.bp = w.heap.size := fun e => g68.free (.inl e.symm)
            have ztl := g68.lt
            have zw0 := g65.c0
            have zw1 := g65.c1
            have zw2 := g65.c2
            have zw3 := g65.c3
            have zwb : ¬ w62.heap.size = c.bp := fun e => g65.free (.inl e)
            have zwc : ¬ c.bp = w62.heap.size := fun e => g65.free (.inl e.symm)
            have zwl := g65.lt
            go_wp2_with fail
            clear zt0 zt1 zt2 zt3 ztb ztc ztl zw0 zw1 zw2 zw3 zwb zwc zwl
            refine (fail_calls m66.ps m66.rem 5).mono ?_
            rintro e wz hbad
            have hb2 := Bad.trans m66.fr hbad
            obtain ⟨rfl, _⟩ := hbad
            exact ⟨rfl, PostN.bad hb2 (by simp [HE.out])⟩
      · refine (take_no mr.ps mr.rem [46] (by simpa using hq61)).mono ?_
        rintro e w105 ⟨rfl, hb⟩
        have gt' := gt.below hb
        have m106 := mr.below hb
        clear mr
        have g107 := gt'
        clear gt' gt
        clear hb
        have zt0 := g107.c0
        have zt1 := g107.c1
        have zt2 := g107.c2
        have zt3 := g107.c3
        have ztb : ¬ w.heap.size = c.bp := fun e => g107.free (.inl e)
        have ztc : ¬ c.bp = w.heap.size := fun e => g107.free (.inl e.symm)
        have ztl := g107.lt
        go_wp2_with fail
        clear zt0 zt1 zt2 zt3 ztb ztc ztl
        have hdn : isTok (hd Ri) [46] = false := by simpa using hq61
        clear hq61
        by_cases hq108 : isTok (hd Ri) [91] = true
        · refine (take_yes m106.ps m106.rem [91] hq108).mono ?_
          rintro e w109 ⟨rfl, hp, hf⟩
          have m110 := m106.next hp hf
          have g107' := g107.fr hf
          have g111 := g107'
          clear g107' g107
          clear hp hf m106
          have zt0 := g111.c0
          have zt1 := g111.c1
          have zt2 := g111.c2
          have zt3 := g111.c3
          have ztb : ¬ w.heap.size = c.bp := fun e => g111.free (.inl e)
          have ztc : ¬ c.bp = w.heap.size := fun e => g111.free (.inl e.symm)
          have ztl := g111.lt
          go_wp2_with fail
          clear zt0 zt1 zt2 zt3 ztb ztc ztl
          have HE := hidden (HR.idx HN.out hdn hq108)
          have HRle := HR.le
          clear HR hdn
          have HChc112 : Hid (pRun n (.assign lv) Ri.tail ≠ .out) := fun e => HN.out (by simp [HE.out, Res.bind, need, fail, e])
          refine (ih.assign _ _ _ _ _ m110.ps m110.rem (m110.lv HL.out) hle HChc112.out).mono ?_
          rintro e w113 hpost
          rcases hc112 : pRun n (.assign lv) Ri.tail with ⟨tshc112, Rhc112⟩ | ⟨en, p⟩ | _
          rotate_left
          · rw [hc112] at hpost
            have hb2 := Bad.trans m110.fr hpost
            obtain ⟨rfl, _⟩ := hpost
            exact ⟨rfl, PostN.bad hb2 (by simp [HE.out, Res.bind, need, fail, hc112])⟩
          · exact absurd hc112 HChc112.out
          rw [hc112] at hpost
          obtain ⟨shc112, khc112, thc112, rfl, rfl, mm⟩ := hpost
          have m114 := m110.call mm
          have g111' := g111.fr mm.fr
          have g115 := g111'
          clear g111' g111
          have Hhc112 := hidden hc112
          clear mm m110 hc112 HChc112
          have zt0 := g115.c0
          have zt1 := g115.c1
          have zt2 := g115.c2
          have zt3 := g115.c3
          have ztb : ¬ w.heap.size = c.bp := fun e => g115.free (.inl e)
          have ztc : ¬ c.bp = w.heap.size := fun e => g115.free (.inl e.symm)
          have ztl := g115.lt
          go_wp2_with fail
          clear zt0 zt1 zt2 zt3 ztb ztc ztl
          by_cases hx116 : isTok (hd Rhc112) [93] = true
          rotate_left
          · refine (need_no m114.ps m114.rem [93] (by simpa using hx116)).mono ?_
            rintro e wz hbad
            have hb2 := Bad.trans m114.fr hbad
            obtain ⟨rfl, _⟩ := hbad
            exact ⟨rfl, PostN.bad hb2 (by simp [HE.out, Res.bind, need, fail, Hhc112.out, hx116])⟩
          refine (need_yes m114.ps m114.rem [93] hx116).mono ?_
          rintro e w117 ⟨rfl, hp, hf⟩
          have m118 := m114.next hp hf
          have g115' := g115.fr hf
          have g119 := g115'
          clear g115' g115
          clear hp hf m114
          have HR2 : PostAt n lv false (hd R).pos (postfixB (pRun n) lv false R) m (.node 35 (hd R).pos [] 0 [t, thc112]) Rhc112.tail := ⟨by omega, by simp [HE.out, Res.bind, need, fail, Hhc112.out, hx116]⟩
          clear HE
          have zt0 := g119.c0
          have zt1 := g119.c1
          have zt2 := g119.c2
          have zt3 := g119.c3
          have ztb : ¬ w.heap.size = c.bp := fun e => g119.free (.inl e)
          have ztc : ¬ c.bp = w.heap.size := fun e => g119.free (.inl e.symm)
          have ztl := g119.lt
          go_wp2_with fail
          clear zt0 zt1 zt2 zt3 ztb ztc ztl
          have nb121 : (Value.slice (some ⟨w117.heap.size, 0, none⟩) 2 2).ownBlock ≠ some w.heap.size := by have : w.heap.size < w117.heap.size := g119.lt; simp [Value.ownBlock]; omega
          have l120 : Lst c w (w117.alloc (.cells #[.int .i64 kk, .int .i64 khc112] 3)) _ (.slice (some ⟨w117.heap.size, 0, none⟩) 2 2) [kk, khc112] := Lst.made m118 [kk, khc112] (by simp)
          have g119' := g119.below ((Below.refl _ _).alloc (Nat.le_refl _) (.cells #[.int .i64 kk, .int .i64 khc112] 3))
          have m122 := m118.below ((Below.refl _ _).alloc (Nat.le_refl _) (.cells #[.int .i64 kk, .int .i64 khc112] 3))
          clear m118
          have g123 := g119'
          clear g119' g119
          generalize w117.alloc (.cells #[.int .i64 kk, .int .i64 khc112] 3) = w124 at m122 l120 g123 ⊢
          refine (node_mid m122 l120 h.room 35 (hd R).pos []).mono ?_
          rintro e w125 ⟨s127, k126, rfl, m128, hp⟩
          have g123' := g123.kept hp nb121
          clear hp m122
          have g129 := g123'
          clear g123' g123
          have zt0 := g129.c0
          have zt1 := g129.c1
          have zt2 := g129.c2
          have zt3 := g129.c3
          have ztb : ¬ w.heap.size = c.bp := fun e => g129.free (.inl e)
          have ztc : ¬ c.bp = w.heap.size := fun e => g129.free (.inl e.symm)
          have ztl := g129.lt
          go_wp2_with fail
          clear zt0 zt1 zt2 zt3 ztb ztc ztl
          go_roundg m
          case measure => omega
          case rel => exact ⟨_, _, _, _, _, rfl, m128, g129, HR2⟩
        · refine (take_no m106.ps m106.rem [91] (by simpa using hq108)).mono ?_
          rintro e w130 ⟨rfl, hb⟩
          have g107' := g107.below hb
          have m131 := m106.below hb
          clear m106
          have g132 := g107'
          clear g107' g107
          clear hb
          have zt0 := g132.c0
          have zt1 := g132.c1
          have zt2 := g132.c2
          have zt3 := g132.c3
          have ztb : ¬ w.heap.size = c.bp := fun e => g132.free (.inl e)
          have ztc : ¬ c.bp = w.heap.size := fun e => g132.free (.inl e.symm)
          have ztl := g132.lt
          go_wp2_with fail
          clear zt0 zt1 zt2 zt3 ztb ztc ztl
          have hin : isTok (hd Ri) [91] = false := by simpa using hq108
          clear hq108
          have HE := hidden (HR.stop hdn hin rfl)
          clear HR
          go_ret
          exact PostN.fin m131 HE.out
  have hq4n : isTok (hd R) [110, 101, 119] = false := by simpa using hq4
  clear hq4
  have zt0 := g7.c0
  have zt1 := g7.c1
  have zt2 := g7.c2
  have zt3 := g7.c3
  have ztb : ¬ w.heap.size = c.bp := fun e => g7.free (.inl e)
  have ztc : ¬ c.bp = w.heap.size := fun e => g7.free (.inl e.symm)
  have ztl := g7.lt
  go_wp2_with fail
  clear zt0 zt1 zt2 zt3 ztb ztc ztl
  have HChc133 : Hid (pRun n (.primary lv) R ≠ .out) := fun e => HN.out (by simp [postfixB, Res.bind, fail, ok1, need, hq4n, e])
  refine (ih.primary _ _ _ _ _ m6.ps m6.rem (m6.lv HL.out) hle HChc133.out).mono ?_
  rintro e w134 hpost
  rcases hc133 : pRun n (.primary lv) R with ⟨tshc133, Rhc133⟩ | ⟨en, p⟩ | _
  rotate_left
  · rw [hc133] at hpost
    have hb2 := Bad.trans m6.fr hpost
    obtain ⟨rfl, _⟩ := hpost
    exact ⟨rfl, PostN.bad hb2 (by simp [postfixB, Res.bind, fail, ok1, need, hq4n, hc133])⟩
  · exact absurd hc133 HChc133.out
  rw [hc133] at hpost
  obtain ⟨shc133, khc133, thc133, rfl, rfl, mm⟩ := hpost
  have m135 := m6.call mm
  have g7' := g7.fr mm.fr
  have g136 := g7'
  clear g7' g7
  have Hhc133 := hidden hc133
  clear mm m6 hc133 HChc133
  have HB : PostAt n lv false (hd R).pos (postfixB (pRun n) lv false R) n thc133 Rhc133 := ⟨Nat.le_refl _, by simp [postfixB, Res.bind, fail, ok1, need, hq4n, Hhc133.out]⟩
  have zt0 := g136.c0
  have zt1 := g136.c1
  have zt2 := g136.c2
  have zt3 := g136.c3
  have ztb : ¬ w.heap.size = c.bp := fun e => g136.free (.inl e)
  have ztc : ¬ c.bp = w.heap.size := fun e => g136.free (.inl e.symm)
  have ztl := g136.lt
  go_wp2_with fail
  clear zt0 zt1 zt2 zt3 ztb ztc ztl
  go_loopg [6] n (fun m u wr => ∃ (kk : Nat), ∃ si Ri t d, .int .i64 kk = u ∧ Mid c w s wr si Ri [t] [kk] d ∧ Held c wr si w.heap.size (hd R) ∧ PostAt n lv false (hd R).pos (postfixB (pRun n) lv false R) m t Ri)
  case atStart => exact ⟨_, _, _, _, _, rfl, m135, g136, HB⟩
  case round =>
    obtain ⟨kk, si, Ri, t, d, rfl, mr, gt, HR⟩ := hrel
    clear m135 g136 HB
    obtain ⟨m, rfl⟩ := HR.pos HN.out
    have zt0 := gt.c0
    have zt1 := gt.c1
    have zt2 := gt.c2
    have zt3 := gt.c3
    have ztb : ¬ w.heap.size = c.bp := fun e => gt.free (.inl e)
    have ztc : ¬ c.bp = w.heap.size := fun e => gt.free (.inl e.symm)
    have ztl := gt.lt
    go_wp2_with fail
    clear zt0 zt1 zt2 zt3 ztb ztc ztl
    by_cases hq137 : isTok (hd Ri) [46] = true
    · refine (take_yes mr.ps mr.rem [46] hq137).mono ?_
      rintro e w138 ⟨rfl, hp, hf⟩
      have m139 := mr.next hp hf
      have gt' := gt.fr hf
      have g140 := gt'
      clear gt' gt
      clear hp hf mr
      have zt0 := g140.c0
      have zt1 := g140.c1
      have zt2 := g140.c2
      have zt3 := g140.c3
      have ztb : ¬ w.heap.size = c.bp := fun e => g140.free (.inl e)
      have ztc : ¬ c.bp = w.heap.size := fun e => g140.free (.inl e.symm)
      have ztl := g140.lt
      go_wp2_with fail
      clear zt0 zt1 zt2 zt3 ztb ztc ztl
      have h0 := m139.ps.c0
      have h1 := m139.ps.c1
      have hbp := m139.ps.bp_lt
      have hbl := m139.ps.bl_lt
      have hi := m139.ps.i
      have hlen := m139.ps.len
      have t0 := m139.ps.t0 m139.rem
      have t1 := m139.ps.t1 m139.rem
      have t2 := m139.ps.t2 m139.rem
      have t3 := m139.ps.t3 m139.rem
      go_wp2
      go_region
      clear h0 h1 hbp hbl hi hlen t0 t1 t2 t3
      have g140' := g140.below (((Below.refl _ _).alloc (Nat.le_refl _) (.cells #[.int .u8 (hd Ri.tail).kind, .int .i64 (hd Ri.tail).pos, .string ⟨(hd Ri.tail).text.toArray⟩, .float .f64 (hd Ri.tail).num] 59)).drew)
      obtain ⟨m142, g141⟩ := m139.held
      clear m139
      change Mid c w s ((w138.alloc (.cells #[.int .u8 (hd Ri.tail).kind, .int .i64 (hd Ri.tail).pos, .string ⟨(hd Ri.tail).text.toArray⟩, .float .f64 (hd Ri.tail).num] 59)).drew) _ _ _ _ _ at m142
      change Held c ((w138.alloc (.cells #[.int .u8 (hd Ri.tail).kind, .int .i64 (hd Ri.tail).pos, .string ⟨(hd Ri.tail).text.toArray⟩, .float .f64 (hd Ri.tail).num] 59)).drew) _ _ _ at g141
      generalize ((w138.alloc (.cells #[.int .u8 (hd Ri.tail).kind, .int .i64 (hd Ri.tail).pos, .string ⟨(hd Ri.tail).text.toArray⟩, .float .f64 (hd Ri.tail).num] 59)).drew) = w143 at m142 g141 g140' ⊢
      have g144 := g140'
      clear g140' g140
      by_cases hk145 : ((hd Ri.tail).kind == 1) = true
      · have hk145a : (((hd Ri.tail).kind : Int) == 1) = true := by rw [← hk145]; exact beqK _ 1
        have hk145b : ((hd Ri.tail).kind : Int) = 1 := by simp at hk145; omega
        have hk145c : (((hd Ri.tail).kind : Int) != 1) = false := by simp only [bne, hk145a]; rfl
        have HR2 := HR.dot hq137 (.inl hk145)
        clear HR
        have zt0 := g144.c0
        have zt1 := g144.c1
        have zt2 := g144.c2
        have zt3 := g144.c3
        have ztb : ¬ w.heap.size = c.bp := fun e => g144.free (.inl e)
        have ztc : ¬ c.bp = w.heap.size := fun e => g144.free (.inl e.symm)
        have ztl := g144.lt
        have zw0 := g141.c0
        have zw1 := g141.c1
        have zw2 := g141.c2
        have zw3 := g141.c3
        have zwb : ¬ w138.heap.size = c.bp := fun e => g141.free (.inl e)
        have zwc : ¬ c.bp = w138.heap.size := fun e => g141.free (.inl e.symm)
        have zwl := g141.lt
        have hmore := m142.ps.more m142.rem (by simp at hk145; omega)
        have h1 := m142.ps.c1
        have fz1 := m142.ps.fz 1
        have hlen := m142.ps.len
        have hnx := m142.ps.next hmore
        have m146 := m142.next hnx.1 hnx.2
        have g144' := g144.fr hnx.2
        have g141' := g141.fr hnx.2
        have g147 := g144'
        clear g144' g144
        have g148 := g141'
        clear g141' g141
        go_wp2_with fail
        clear h1 fz1 hlen hnx hmore zt0 zt1 zt2 zt3 ztb ztc ztl zw0 zw1 zw2 zw3 zwb zwc zwl m142
        have hszz : w143.heap.size = (w143.setCell ⟨c.bp, 1, none⟩ (.int .i64 ((((si).next).i : Int) + 1))).heap.size := by simp [World.setCell]
        generalize (w143.setCell ⟨c.bp, 1, none⟩ (.int .i64 ((((si).next).i : Int) + 1))) = w149 at hszz m146 g147 g148 ⊢
        rw [hszz]
        clear hszz
        have nb151 : (Value.slice (some ⟨w149.heap.size, 0, none⟩) 1 1).ownBlock ≠ some w.heap.size := by have : w.heap.size < w149.heap.size := g147.lt; simp [Value.ownBlock]; omega
        have nb152 : (Value.slice (some ⟨w149.heap.size, 0, none⟩) 1 1).ownBlock ≠ some w138.heap.size := by have : w138.heap.size < w149.heap.size := g148.lt; simp [Value.ownBlock]; omega
        have l150 : Lst c w (w149.alloc (.cells #[.int .i64 kk] 3)) _ (.slice (some ⟨w149.heap.size, 0, none⟩) 1 1) [kk] := Lst.made m146 [kk] (by simp)
        have g147' := g147.below ((Below.refl _ _).alloc (Nat.le_refl _) (.cells #[.int .i64 kk] 3))
        have g148' := g148.below ((Below.refl _ _).alloc (Nat.le_refl _) (.cells #[.int .i64 kk] 3))
        have m153 := m146.below ((Below.refl _ _).alloc (Nat.le_refl _) (.cells #[.int .i64 kk] 3))
        clear m146
        have g154 := g147'
        clear g147' g147
        have g155 := g148'
        clear g148' g148
        generalize w149.alloc (.cells #[.int .i64 kk] 3) = w156 at m153 l150 g154 g155 ⊢
        refine (node_mid m153 l150 h.room 34 (hd R).pos (hd Ri.tail).text).mono ?_
        rintro e w157 ⟨s159, k158, rfl, m160, hp⟩
        have g154' := g154.kept hp nb151
        have g155' := g155.kept hp nb152
        clear hp m153
        have g161 := g154'
        clear g154' g154
        have g162 := g155'
        clear g155' g155
        have zt0 := g161.c0
        have zt1 := g161.c1
        have zt2 := g161.c2
        have zt3 := g161.c3
        have ztb : ¬ w.heap.size = c.bp := fun e => g161.free (.inl e)
        have ztc : ¬ c.bp = w.heap.size := fun e => g161.free (.inl e.symm)
        have ztl := g161.lt
        go_wp2_with fail
        clear zt0 zt1 zt2 zt3 ztb ztc ztl
        go_roundg m
        case measure => omega
        case rel => exact ⟨_, _, _, _, _, rfl, m160, g161, HR2⟩
      · have hk145n : ((hd Ri.tail).kind == 1) = false := by simpa using hk145
        have hk145a : (((hd Ri.tail).kind : Int) == 1) = false := by rw [← hk145n]; exact beqK _ 1
        have hk145b : ¬ ((hd Ri.tail).kind : Int) = 1 := by simp at hk145; omega
        clear hk145
        have hk145c : (((hd Ri.tail).kind : Int) != 1) = true := by simp only [bne, hk145a]; rfl
        by_cases hk163 : ((hd Ri.tail).kind == 2) = true
        · have hk163a : (((hd Ri.tail).kind : Int) == 2) = true := by rw [← hk163]; exact beqK _ 2
          have hk163b : ((hd Ri.tail).kind : Int) = 2 := by simp at hk163; omega
          have hk163c : (((hd Ri.tail).kind : Int) != 2) = false := by simp only [bne, hk163a]; rfl
          have HR2 := HR.dot hq137 (.inr hk163)
          clear HR
          have zt0 := g144.c0
          have zt1 := g144.c1
          have zt2 := g144.c2
          have zt3 := g144.c3
          have ztb : ¬ w.heap.size = c.bp := fun e => g144.free (.inl e)
          have ztc : ¬ c.bp = w.heap.size := fun e => g144.free (.inl e.symm)
          have ztl := g144.lt
          have zw0 := g141.c0
          have zw1 := g141.c1
          have zw2 := g141.c2
          have zw3 := g141.c3
          have zwb : ¬ w138.heap.size = c.bp := fun e => g141.free (.inl e)
          have zwc : ¬ c.bp = w138.heap.size := fun e => g141.free (.inl e.symm)
          have zwl := g141.lt
          have hmore := m142.ps.more m142.rem (by simp at hk163; omega)
          have h1 := m142.ps.c1
          have fz1 := m142.ps.fz 1
          have hlen := m142.ps.len
          have hnx := m142.ps.next hmore
          have m164 := m142.next hnx.1 hnx.2
          have g144' := g144.fr hnx.2
          have g141' := g141.fr hnx.2
          have g165 := g144'
          clear g144' g144
          have g166 := g141'
          clear g141' g141
          go_wp2_with fail
          clear h1 fz1 hlen hnx hmore zt0 zt1 zt2 zt3 ztb ztc ztl zw0 zw1 zw2 zw3 zwb zwc zwl m142
          have hszz : w143.heap.size = (w143.setCell ⟨c.bp, 1, none⟩ (.int .i64 ((((si).next).i : Int) + 1))).heap.size := by simp [World.setCell]
          generalize (w143.setCell ⟨c.bp, 1, none⟩ (.int .i64 ((((si).next).i : Int) + 1))) = w167 at hszz m164 g165 g166 ⊢
          rw [hszz]
          clear hszz
          have nb169 : (Value.slice (some ⟨w167.heap.size, 0, none⟩) 1 1).ownBlock ≠ some w.heap.size := by have : w.heap.size < w167.heap.size := g165.lt; simp [Value.ownBlock]; omega
          have nb170 : (Value.slice (some ⟨w167.heap.size, 0, none⟩) 1 1).ownBlock ≠ some w138.heap.size := by have : w138.heap.size < w167.heap.size := g166.lt; simp [Value.ownBlock]; omega
          have l168 : Lst c w (w167.alloc (.cells #[.int .i64 kk] 3)) _ (.slice (some ⟨w167.heap.size, 0, none⟩) 1 1) [kk] := Lst.made m164 [kk] (by simp)
          have g165' := g165.below ((Below.refl _ _).alloc (Nat.le_refl _) (.cells #[.int .i64 kk] 3))
          have g166' := g166.below ((Below.refl _ _).alloc (Nat.le_refl _) (.cells #[.int .i64 kk] 3))
          have m171 := m164.below ((Below.refl _ _).alloc (Nat.le_refl _) (.cells #[.int .i64 kk] 3))
          clear m164
          have g172 := g165'
          clear g165' g165
          have g173 := g166'
          clear g166' g166
          generalize w167.alloc (.cells #[.int .i64 kk] 3) = w174 at m171 l168 g172 g173 ⊢
          refine (node_mid m171 l168 h.room 34 (hd R).pos (hd Ri.tail).text).mono ?_
          rintro e w175 ⟨s177, k176, rfl, m178, hp⟩
          have g172' := g172.kept hp nb169
          have g173' := g173.kept hp nb170
          clear hp m171
          have g179 := g172'
          clear g172' g172
          have g180 := g173'
          clear g173' g173
          have zt0 := g179.c0
          have zt1 := g179.c1
          have zt2 := g179.c2
          have zt3 := g179.c3
          have ztb : ¬ w.heap.size = c.bp := fun e => g179.free (.inl e)
          have ztc : ¬ c.bp = w.heap.size := fun e => g179.free (.inl e.symm)
          have ztl := g179.lt
          go_wp2_with fail
          clear zt0 zt1 zt2 zt3 ztb ztc ztl
          go_roundg m
          case measure => omega
          case rel => exact ⟨_, _, _, _, _, rfl, m178, g179, HR2⟩
        · have hk163n : ((hd Ri.tail).kind == 2) = false := by simpa using hk163
          have hk163a : (((hd Ri.tail).kind : Int) == 2) = false := by rw [← hk163n]; exact beqK _ 2
          have hk163b : ¬ ((hd Ri.tail).kind : Int) = 2 := by simp at hk163; omega
          clear hk163
          have hk163c : (((hd Ri.tail).kind : Int) != 2) = true := by simp only [bne, hk163a]; rfl
          have HE := hidden (HR.dotBad hq137 hk145n hk163n)
          clear HR
          have zt0 := g144.c0
          have zt1 := g144.c1
          have zt2 := g144.c2
          have zt3 := g144.c3
          have ztb : ¬ w.heap.size = c.bp := fun e => g144.free (.inl e)
          have ztc : ¬ c.bp = w.heap.size := fun e => g144.free (.inl e.symm)
          have ztl := g144.lt
          have zw0 := g141.c0
          have zw1 := g141.c1
          have zw2 := g141.c2
          have zw3 := g141.c3
          have zwb : ¬ w138.heap.size = c.bp := fun e => g141.free (.inl e)
          have zwc : ¬ c.bp = w138.heap.size := fun e => g141.free (.inl e.symm)
          have zwl := g141.lt
          go_wp2_with fail
          clear zt0 zt1 zt2 zt3 ztb ztc ztl zw0 zw1 zw2 zw3 zwb zwc zwl
          refine (fail_calls m142.ps m142.rem 5).mono ?_
          rintro e wz hbad
          have hb2 := Bad.trans m142.fr hbad
          obtain ⟨rfl, _⟩ := hbad
          exact ⟨rfl, PostN.bad hb2 (by simp [HE.out])⟩
    · refine (take_no mr.ps mr.rem [46] (by simpa using hq137)).mono ?_
      rintro e w181 ⟨rfl, hb⟩
      have gt' := gt.below hb
      have m182 := mr.below hb
      clear mr
      have g183 := gt'
      clear gt' gt
      clear hb
      have zt0 := g183.c0
      have zt1 := g183.c1
      have zt2 := g183.c2
      have zt3 := g183.c3
      have ztb : ¬ w.heap.size = c.bp := fun e => g183.free (.inl e)
      have ztc : ¬ c.bp = w.heap.size := fun e => g183.free (.inl e.symm)
      have ztl := g183.lt
      go_wp2_with fail
      clear zt0 zt1 zt2 zt3 ztb ztc ztl
      have hdn : isTok (hd Ri) [46] = false := by simpa using hq137
      clear hq137
      by_cases hq184 : isTok (hd Ri) [91] = true
      · refine (take_yes m182.ps m182.rem [91] hq184).mono ?_
        rintro e w185 ⟨rfl, hp, hf⟩
        have m186 := m182.next hp hf
        have g183' := g183.fr hf
        have g187 := g183'
        clear g183' g183
        clear hp hf m182
        have zt0 := g187.c0
        have zt1 := g187.c1
        have zt2 := g187.c2
        have zt3 := g187.c3
        have ztb : ¬ w.heap.size = c.bp := fun e => g187.free (.inl e)
        have ztc : ¬ c.bp = w.heap.size := fun e => g187.free (.inl e.symm)
        have ztl := g187.lt
        go_wp2_with fail
        clear zt0 zt1 zt2 zt3 ztb ztc ztl
        have HE := hidden (HR.idx HN.out hdn hq184)
        have HRle := HR.le
        clear HR hdn
        have HChc188 : Hid (pRun n (.assign lv) Ri.tail ≠ .out) := fun e => HN.out (by simp [HE.out, Res.bind, need, fail, e])
        refine (ih.assign _ _ _ _ _ m186.ps m186.rem (m186.lv HL.out) hle HChc188.out).mono ?_
        rintro e w189 hpost
        rcases hc188 : pRun n (.assign lv) Ri.tail with ⟨tshc188, Rhc188⟩ | ⟨en, p⟩ | _
        rotate_left
        · rw [hc188] at hpost
          have hb2 := Bad.trans m186.fr hpost
          obtain ⟨rfl, _⟩ := hpost
          exact ⟨rfl, PostN.bad hb2 (by simp [HE.out, Res.bind, need, fail, hc188])⟩
        · exact absurd hc188 HChc188.out
        rw [hc188] at hpost
        obtain ⟨shc188, khc188, thc188, rfl, rfl, mm⟩ := hpost
        have m190 := m186.call mm
        have g187' := g187.fr mm.fr
        have g191 := g187'
        clear g187' g187
        have Hhc188 := hidden hc188
        clear mm m186 hc188 HChc188
        have zt0 := g191.c0
        have zt1 := g191.c1
        have zt2 := g191.c2
        have zt3 := g191.c3
        have ztb : ¬ w.heap.size = c.bp := fun e => g191.free (.inl e)
        have ztc : ¬ c.bp = w.heap.size := fun e => g191.free (.inl e.symm)
        have ztl := g191.lt
        go_wp2_with fail
        clear zt0 zt1 zt2 zt3 ztb ztc ztl
        by_cases hx192 : isTok (hd Rhc188) [93] = true
        rotate_left
        · refine (need_no m190.ps m190.rem [93] (by simpa using hx192)).mono ?_
          rintro e wz hbad
          have hb2 := Bad.trans m190.fr hbad
          obtain ⟨rfl, _⟩ := hbad
          exact ⟨rfl, PostN.bad hb2 (by simp [HE.out, Res.bind, need, fail, Hhc188.out, hx192])⟩
        refine (need_yes m190.ps m190.rem [93] hx192).mono ?_
        rintro e w193 ⟨rfl, hp, hf⟩
        have m194 := m190.next hp hf
        have g191' := g191.fr hf
        have g195 := g191'
        clear g191' g191
        clear hp hf m190
        have HR2 : PostAt n lv false (hd R).pos (postfixB (pRun n) lv false R) m (.node 35 (hd R).pos [] 0 [t, thc188]) Rhc188.tail := ⟨by omega, by simp [HE.out, Res.bind, need, fail, Hhc188.out, hx192]⟩
        clear HE
        have zt0 := g195.c0
        have zt1 := g195.c1
        have zt2 := g195.c2
        have zt3 := g195.c3
        have ztb : ¬ w.heap.size = c.bp := fun e => g195.free (.inl e)
        have ztc : ¬ c.bp = w.heap.size := fun e => g195.free (.inl e.symm)
        have ztl := g195.lt
        go_wp2_with fail
        clear zt0 zt1 zt2 zt3 ztb ztc ztl
        have nb197 : (Value.slice (some ⟨w193.heap.size, 0, none⟩) 2 2).ownBlock ≠ some w.heap.size := by have : w.heap.size < w193.heap.size := g195.lt; simp [Value.ownBlock]; omega
        have l196 : Lst c w (w193.alloc (.cells #[.int .i64 kk, .int .i64 khc188] 3)) _ (.slice (some ⟨w193.heap.size, 0, none⟩) 2 2) [kk, khc188] := Lst.made m194 [kk, khc188] (by simp)
        have g195' := g195.below ((Below.refl _ _).alloc (Nat.le_refl _) (.cells #[.int .i64 kk, .int .i64 khc188] 3))
        have m198 := m194.below ((Below.refl _ _).alloc (Nat.le_refl _) (.cells #[.int .i64 kk, .int .i64 khc188] 3))
        clear m194
        have g199 := g195'
        clear g195' g195
        generalize w193.alloc (.cells #[.int .i64 kk, .int .i64 khc188] 3) = w200 at m198 l196 g199 ⊢
        refine (node_mid m198 l196 h.room 35 (hd R).pos []).mono ?_
        rintro e w201 ⟨s203, k202, rfl, m204, hp⟩
        have g199' := g199.kept hp nb197
        clear hp m198
        have g205 := g199'
        clear g199' g199
        have zt0 := g205.c0
        have zt1 := g205.c1
        have zt2 := g205.c2
        have zt3 := g205.c3
        have ztb : ¬ w.heap.size = c.bp := fun e => g205.free (.inl e)
        have ztc : ¬ c.bp = w.heap.size := fun e => g205.free (.inl e.symm)
        have ztl := g205.lt
        go_wp2_with fail
        clear zt0 zt1 zt2 zt3 ztb ztc ztl
        go_roundg m
        case measure => omega
        case rel => exact ⟨_, _, _, _, _, rfl, m204, g205, HR2⟩
      · refine (take_no m182.ps m182.rem [91] (by simpa using hq184)).mono ?_
        rintro e w206 ⟨rfl, hb⟩
        have g183' := g183.below hb
        have m207 := m182.below hb
        clear m182
        have g208 := g183'
        clear g183' g183
        clear hb
        have zt0 := g208.c0
        have zt1 := g208.c1
        have zt2 := g208.c2
        have zt3 := g208.c3
        have ztb : ¬ w.heap.size = c.bp := fun e => g208.free (.inl e)
        have ztc : ¬ c.bp = w.heap.size := fun e => g208.free (.inl e.symm)
        have ztl := g208.lt
        go_wp2_with fail
        clear zt0 zt1 zt2 zt3 ztb ztc ztl
        have hin : isTok (hd Ri) [91] = false := by simpa using hq184
        clear hq184
        have HE := hidden (HR.stop hdn hin rfl)
        clear HR
        go_ret
        exact PostN.fin m207 HE.out

end Go.Proofs.YtgdamcmfdhhheaaGreatDoor
