/- Deferred closings at a place that is not known ahead; a row of strings that is held. -/
import Derived.Test.YtgdamcmfdhhheaaGreatDoorMA6
import Derived.Deep.LoopGhost
import Derived.Deep.RegionHeld2
import Derived.Defers
import Derived.Deep.AppendLies
set_option linter.all false

namespace Go.Proofs.YtgdamcmfdhhheaaGreatDoor
open Go.RowKit Bf

def DAny (P : Program) (fn : Func) (R : Ending → World → Prop) (E : Nat → List PanicEntry → World → Prop) : Exit → Act → World → Prop
  | .panic ch, a, w => (a.defers = [] ∧ R (.panicked ch) w) ∨ (∃ B, a.defers = [up B] ∧ E B ch w)
  | e, a, w => bodyPostD P fn R e a w

theorem DAny.imp {P : Program} {fn : Func} {R : Ending → World → Prop} {E : Nat → List PanicEntry → World → Prop}
    (h : ∀ B ch w, E B ch w → ∀ tmps, Leaves P fn tmps R [up B] (.panicking ch) w) : ∀ e a w, DAny P fn R E e a w → bodyPostD P fn R e a w := fun e a w hd => by
  cases e with
  | panic ch =>
    rcases hd with ⟨h1, h2⟩ | ⟨B, h1, h2⟩
    · show Leaves _ _ _ _ a.defers _ _
      rw [h1]
      exact h2
    · show Leaves _ _ _ _ a.defers _ _
      rw [h1]
      exact h _ _ _ h2 _
  | _ => exact hd

structure HeldS (c : Cx) (w : World) (s : St) (B : Nat) (l : List (List UInt8)) : Prop where
  cells : w.heap[B]? = some (.cells (l.map fun x => Value.string ⟨x.toArray⟩).toArray 9 (0, 0))
  free : ¬ Own c s B

theorem HeldS.lt {c : Cx} {w : World} {s : St} {B : Nat} {l : List (List UInt8)} (h : HeldS c w s B l) : B < w.heap.size := (Array.getElem?_eq_some_iff.1 h.cells).1
theorem HeldS.below {c : Cx} {w w' : World} {s : St} {B : Nat} {l : List (List UInt8)} (h : HeldS c w s B l) (hb : Below w.heap.size w w') : HeldS c w' s B l := ⟨(hb.block B h.lt).trans h.cells, h.free⟩
theorem HeldS.get {c : Cx} {w : World} {s : St} {B : Nat} {l : List (List UInt8)} (h : HeldS c w s B l) (k : Nat) (hk : k < l.length) : w.cell? ⟨B, k, none⟩ = some (.string ⟨(l.getD k []).toArray⟩) := by
  rw [cell_of_row _ _ _ _ _ _ h.cells]
  simp [List.getD, hk]

theorem unary_no (t : Tok) (h : ∀ j, j < 7 → isTok t (unaries.getD j []) = false) : isUnary t = false := by
  unfold isUnary
  have h0 := h 0 (by omega); have h1 := h 1 (by omega); have h2 := h 2 (by omega); have h3 := h 3 (by omega)
  have h4 := h 4 (by omega); have h5 := h 5 (by omega); have h6 := h 6 (by omega)
  simp only [unaries, List.any_cons, List.any_nil, Bool.or_false]
  simp only [unaries] at h0 h1 h2 h3 h4 h5 h6
  change isTok t _ = false at h0 h1 h2 h3 h4 h5 h6
  simp [List.getD] at h0 h1 h2 h3 h4 h5 h6
  simp [h0, h1, h2, h3, h4, h5, h6]

theorem unary_yes (t : Tok) (k : Nat) (hk : k < 7) (h : isTok t (unaries.getD k []) = true) : isUnary t = true ∧ t.text = unaries.getD k [] := by
  refine ⟨?_, ?_⟩
  · rw [isUnary, List.any_eq_true]
    refine ⟨unaries.getD k [], ?_, h⟩
    have hl : k < unaries.length := hk
    rw [show unaries.getD k [] = unaries[k] from by simp [List.getD, hl]]
    exact List.getElem_mem hl
  · simp only [isTok, Bool.and_eq_true, beq_iff_eq] at h
    exact h.1

end Go.Proofs.YtgdamcmfdhhheaaGreatDoor

/- Signs ahead, walked. -/
namespace Go.Proofs.YtgdamcmfdhhheaaGreatDoor
open Go.RowKit Bf

set_option maxRecDepth 100000 in
set_option maxHeartbeats 20000000 in
theorem unary_step (n : Nat) (ih : All n) : CallN 149 [] .unary (n + 1) := by
  intro c w s R lv h hr hlv hle hne
  change Calls _ _ #[.pointer (some ⟨c.bp, 0, none⟩)] w (PostN c w s (unaryB (pRun n) lv R))
  have HN : Hid (unaryB (pRun n) lv R ≠ .out) := hne
  have HL : Hid (s.lv = (lv : Int)) := hlv
  clear hne hlv
  have m0 := Mid.start h hr
  clear hr
  go_enter_defers Tryz.func149, Tryz.ntmps149
  refine Code.wp_mono (DAny.imp (E := fun B => Thrown c w s (unaryB (pRun n) lv R) B) (fun B => leaves_thrown (c := c) (w := w) (s := s) (r := unaryB (pRun n) lv R) (B := B) (fun en p e w' he hb => PostN.bad hb he))) ?_
  have h0 := m0.ps.c0
  have h1 := m0.ps.c1
  have hbp := m0.ps.bp_lt
  have hbl := m0.ps.bl_lt
  have hi := m0.ps.i
  have hlen := m0.ps.len
  have t0 := m0.ps.t0 m0.rem
  have t1 := m0.ps.t1 m0.rem
  have t2 := m0.ps.t2 m0.rem
  have t3 := m0.ps.t3 m0.rem
  go_wp2
  go_region
  clear h0 h1 hbp hbl hi hlen t0 t1 t2 t3
  obtain ⟨m2, g1⟩ := m0.held
  clear m0
  change Mid c w s ((w.alloc (.cells #[.int .u8 (hd R).kind, .int .i64 (hd R).pos, .string ⟨(hd R).text.toArray⟩, .float .f64 (hd R).num] 59)).drew) _ _ _ _ _ at m2
  change Held c ((w.alloc (.cells #[.int .u8 (hd R).kind, .int .i64 (hd R).pos, .string ⟨(hd R).text.toArray⟩, .float .f64 (hd R).num] 59)).drew) _ _ _ at g1
  generalize ((w.alloc (.cells #[.int .u8 (hd R).kind, .int .i64 (hd R).pos, .string ⟨(hd R).text.toArray⟩, .float .f64 (hd R).num] 59)).drew) = w3 at m2 g1 ⊢
  have zt0 := g1.c0
  have zt1 := g1.c1
  have zt2 := g1.c2
  have zt3 := g1.c3
  have ztb : ¬ w.heap.size = c.bp := fun e => g1.free (.inl e)
  have ztc : ¬ c.bp = w.heap.size := fun e => g1.free (.inl e.symm)
  have ztl := g1.lt
  go_wp2_with fail
  clear zt0 zt1 zt2 zt3 ztb ztc ztl
  have l0 : HeldS c (w3.alloc (.cells #[.string ⟨#[33]⟩, .string ⟨#[45]⟩, .string ⟨#[43]⟩, .string ⟨#[126]⟩, .string ⟨#[116, 121, 112, 101, 111, 102]⟩, .string ⟨#[118, 111, 105, 100]⟩, .string ⟨#[100, 101, 108, 101, 116, 101]⟩] 9)) s w3.heap.size unaries := ⟨heap_alloc_new _ _, fun ho => by have := (m2.ps.own_ge ho).2; omega⟩
  have g1' := g1.below ((Below.refl _ _).alloc (Nat.le_refl _) (.cells #[.string ⟨#[33]⟩, .string ⟨#[45]⟩, .string ⟨#[43]⟩, .string ⟨#[126]⟩, .string ⟨#[116, 121, 112, 101, 111, 102]⟩, .string ⟨#[118, 111, 105, 100]⟩, .string ⟨#[100, 101, 108, 101, 116, 101]⟩] 9))
  have m4 := m2.below ((Below.refl _ _).alloc (Nat.le_refl _) (.cells #[.string ⟨#[33]⟩, .string ⟨#[45]⟩, .string ⟨#[43]⟩, .string ⟨#[126]⟩, .string ⟨#[116, 121, 112, 101, 111, 102]⟩, .string ⟨#[118, 111, 105, 100]⟩, .string ⟨#[100, 101, 108, 101, 116, 101]⟩] 9))
  clear m2
  have g5 := g1'
  clear g1' g1
  generalize w3.alloc (.cells #[.string ⟨#[33]⟩, .string ⟨#[45]⟩, .string ⟨#[43]⟩, .string ⟨#[126]⟩, .string ⟨#[116, 121, 112, 101, 111, 102]⟩, .string ⟨#[118, 111, 105, 100]⟩, .string ⟨#[100, 101, 108, 101, 116, 101]⟩] 9) = w6 at l0 m4 g5 ⊢
  generalize w3.heap.size = SB at l0 ⊢
  go_loopg [18] 8 (fun m u wr => ∃ kk : Nat, u = .int .i64 kk ∧ Mid c w s wr s R [] [] 0 ∧ Held c wr s w.heap.size (hd R) ∧ HeldS c wr s SB unaries ∧ kk ≤ 7 ∧ 8 ≤ m + kk ∧ Hid (∀ j, j < kk → isTok (hd R) (unaries.getD j []) = false))
  case atStart => exact ⟨0, rfl, m4, g5, l0, by omega, by omega, hidden (fun j hj => absurd hj (by omega))⟩
  case round =>
    obtain ⟨kk, rfl, mr, gt, lu, hkk, hm, hno⟩ := hrel
    clear m4 g5 l0
    by_cases hlt : kk < 7
    · have hl2 : (kk : Int) < 7 := by omega
      have hget := lu.get kk hlt
      have hyes := fun e => hidden (unary_yes (hd R) kk hlt e)
      have hnext := fun (e : isTok (hd R) (unaries.getD kk []) = false) => hidden (show ∀ j, j < kk + 1 → isTok (hd R) (unaries.getD j []) = false from fun j hj => if h : j = kk then h ▸ e else hno.out j (by omega))
      clear hno
      generalize unaries.getD kk [] = sg at hget hyes hnext ⊢
      have zt0 := gt.c0
      have zt1 := gt.c1
      have zt2 := gt.c2
      have zt3 := gt.c3
      have ztb : ¬ w.heap.size = c.bp := fun e => gt.free (.inl e)
      have ztc : ¬ c.bp = w.heap.size := fun e => gt.free (.inl e.symm)
      have ztl := gt.lt
      go_wp2_with fail
      clear zt0 zt1 zt2 zt3 ztb ztc ztl
      clear hget
      refine (is_calls mr.ps mr.rem sg).mono ?_
      rintro e wi ⟨rfl, hb⟩
      have lv2 := lu.below hb
      clear lu
      have gt' := gt.below hb
      have m7 := mr.below hb
      clear mr
      have g8 := gt'
      clear gt' gt
      clear hb
      by_cases hq : isTok (hd R) sg = true
      · have hu := hyes hq
        clear hyes hnext lv2
        have zt0 := g8.c0
        have zt1 := g8.c1
        have zt2 := g8.c2
        have zt3 := g8.c3
        have ztb : ¬ w.heap.size = c.bp := fun e => g8.free (.inl e)
        have ztc : ¬ c.bp = w.heap.size := fun e => g8.free (.inl e.symm)
        have ztl := g8.lt
        go_wp2_with fail
        clear zt0 zt1 zt2 zt3 ztb ztc ztl
        by_cases h200 : 200 < lv + 1
        · refine (deeper_no m7.ps m7.rem (m7.lv HL.out) h200 (by omega)).mono ?_
          rintro e wz post
          have hb2 := Bad.trans m7.fr post
          obtain ⟨rfl, _⟩ := post
          exact Or.inl ⟨rfl, PostN.bad hb2 (by simp [unaryB, Res.bind, fail, ok1, hu.out.1, h200, fail])⟩
        have hleD : lv + 1 ≤ 200 := by omega
        refine (deeper_ok m7.ps (m7.lv HL.out) h200).mono ?_
        rintro e wD ⟨rfl, hp, hf0, hbx, hsz⟩
        have ubD : Box c wD (s.at_ ((lv : Int) + 1)) wi.heap.size := Fr.box m7.ps hf0 hbx (fun _ h => h)
        have mD := Mid.start hp m7.rem
        have HLD : Hid ((s.at_ ((lv : Int) + 1)).lv = ((lv + 1 : Nat) : Int)) := hidden (by simp [St.at_])
        have hroomD : (s.at_ ((lv : Int) + 1)).ns.length ≤ (s.at_ ((lv : Int) + 1)).i + 1 := h.room
        have hf := m7.fr.trans hf0
        have gtD := g8.fr hf0
        clear hp hbx hsz hf0 m7 g8
        generalize wi.heap.size = BX at ubD ⊢
        have zt0 := gtD.c0
        have zt1 := gtD.c1
        have zt2 := gtD.c2
        have zt3 := gtD.c3
        have ztb : ¬ w.heap.size = c.bp := fun e => gtD.free (.inl e)
        have ztc : ¬ c.bp = w.heap.size := fun e => gtD.free (.inl e.symm)
        have ztl := gtD.lt
        have hmore := mD.ps.more mD.rem (by intro e; simp [isTok, e] at hq)
        have h1 := mD.ps.c1
        have fz1 := mD.ps.fz 1
        have hlen := mD.ps.len
        have hnx := mD.ps.next hmore
        have m9 := mD.next hnx.1 hnx.2
        have gtD' := gtD.fr hnx.2
        have ubD' := ubD.fr hnx.2
        have g10 := gtD'
        clear gtD' gtD
        have u11 := ubD'
        clear ubD' ubD
        go_wp2_with fail
        clear h1 fz1 hlen hnx hmore zt0 zt1 zt2 zt3 ztb ztc ztl mD
        generalize (wD.setCell ⟨c.bp, 1, none⟩ (.int .i64 ((((s.at_ ((lv : Int) + 1))).i : Int) + 1))) = w12 at m9 g10 u11 ⊢
        have g10' := g10.below ((Below.refl _ _).drew)
        have u11' := u11.below ((Below.refl _ _).drew)
        have m13 := m9.below ((Below.refl _ _).drew)
        clear m9
        have g14 := g10'
        clear g10' g10
        have u15 := u11'
        clear u11' u11
        have q16 := g14.c1
        have q17 := g14.lt
        go_region_held2 (fun w' => w'.cell? ⟨w.heap.size, 1, none⟩ = some (.int .i64 (hd R).pos))
          (first | assumption | go_keep)
          (first
            | (go_at_call 149
               have HChc18 : Hid (pRun n (.unary (lv + 1)) R.tail ≠ .out) := fun e => HN.out (by simp [unaryB, Res.bind, fail, ok1, hu.out.1, h200, e])
               refine (ih.unary _ _ _ _ _ m13.ps m13.rem (m13.lv HLD.out) hleD HChc18.out).mono ?_
               rintro e w19 hpost
               rcases hc18 : pRun n (.unary (lv + 1)) R.tail with ⟨tshc18, Rhc18⟩ | ⟨en, p⟩ | _
               rotate_left
               · rw [hc18] at hpost
                 have hb2 := Box.thrown (r := unaryB (pRun n) lv R) u15 (hf.trans m13.fr) hpost (by simp [unaryB, Res.bind, fail, ok1, hu.out.1, h200, hc18])
                 obtain ⟨rfl, _⟩ := hpost
                 exact Or.inr ⟨_, rfl, hb2⟩
               · exact absurd hc18 HChc18.out
               rw [hc18] at hpost
               obtain ⟨shc18, khc18, thc18, rfl, rfl, mm⟩ := hpost
               have m20 := m13.call mm
               have g14' := g14.fr mm.fr
               have u15' := u15.fr mm.fr
               have g21 := g14'
               clear g14' g14
               have u22 := u15'
               clear u15' u15
               have Hhc18 := hidden hc18
               clear mm m13 hc18 HChc18
               clear q16
               clear q17
               have q23 := g21.c1
               have q24 := g21.lt)
            | (go_at_call 57
               have nb26 : (Value.slice (some ⟨w19.heap.size, 0, none⟩) 1 1).ownBlock ≠ some w.heap.size := by have := g21.lt; simp [Value.ownBlock]; omega
               have nb27 : (Value.slice (some ⟨w19.heap.size, 0, none⟩) 1 1).ownBlock ≠ some BX := by have := u22.lt; simp [Value.ownBlock]; omega
               have l25 : Lst c wD (w19.alloc (.cells #[.int .i64 khc18] 3)) _ (.slice (some ⟨w19.heap.size, 0, none⟩) 1 1) [khc18] := Lst.made m20 [khc18] (by simp)
               have g21' := g21.below ((Below.refl _ _).alloc (Nat.le_refl _) (.cells #[.int .i64 khc18] 3))
               have u22' := u22.below ((Below.refl _ _).alloc (Nat.le_refl _) (.cells #[.int .i64 khc18] 3))
               have m28 := m20.below ((Below.refl _ _).alloc (Nat.le_refl _) (.cells #[.int .i64 khc18] 3))
               clear m20
               have g29 := g21'
               clear g21' g21
               have u30 := u22'
               clear u22' u22
               generalize w19.alloc (.cells #[.int .i64 khc18] 3) = w31 at m28 l25 g29 u30 ⊢
               refine (node_mid m28 l25 hroomD 38 (hd R).pos sg).mono ?_
               rintro e w32 ⟨s34, k33, rfl, m35, hp⟩
               have g29' := g29.kept hp nb26
               have u30' := u30.kept hp nb27
               clear hp m28
               have g36 := g29'
               clear g29' g29
               have u37 := u30'
               clear u30' u30
               clear q23
               clear q24
               have q38 := g36.c1
               have q39 := g36.lt))
        clear q38
        clear q39
        go_wp2_with fail
        (try simp only [Exit.inBlock, Exit.then])
        change Leaves _ _ _ _ [_] FrameMode.returning _
        refine leaves_cons (f := 124) (args := #[.pointer (some ⟨BX, 0, none⟩)]) (by simp) (by simp [go_sem]) ?_
        refine (up_deferred m35.ps BX u37.cell (lv := lv) (by rw [m35.lv HLD.out]; push_cast; rfl) (by omega) _).mono ?_
        rintro e u' we ⟨rfl, rfl, hp, hfe⟩
        rw [← HL.out] at hp hfe
        exact ⟨_, results_tmp rfl _ _ _, PostN.fin (Mid.down hf m35 hp hfe) (by simp [unaryB, Res.bind, fail, ok1, hu.out.1, h200, Hhc18.out, hu.out.2])⟩
      have hqn : isTok (hd R) sg = false := by simpa using hq
      have hno := hnext hqn
      clear hyes hnext hq
      have zt0 := g8.c0
      have zt1 := g8.c1
      have zt2 := g8.c2
      have zt3 := g8.c3
      have ztb : ¬ w.heap.size = c.bp := fun e => g8.free (.inl e)
      have ztc : ¬ c.bp = w.heap.size := fun e => g8.free (.inl e.symm)
      have ztl := g8.lt
      go_wp2_with fail
      clear zt0 zt1 zt2 zt3 ztb ztc ztl
      obtain ⟨m, rfl⟩ : ∃ m, gk = m + 1 := ⟨gk - 1, by omega⟩
      go_roundg m
      case measure => omega
      case rel => exact ⟨kk + 1, by simp, m7, g8, lv2, by omega, by omega, hno⟩
    have hk7 : kk = 7 := by omega
    subst hk7
    have hun := hidden (unary_no (hd R) hno.out)
    clear hno lu
    have zt0 := gt.c0
    have zt1 := gt.c1
    have zt2 := gt.c2
    have zt3 := gt.c3
    have ztb : ¬ w.heap.size = c.bp := fun e => gt.free (.inl e)
    have ztc : ¬ c.bp = w.heap.size := fun e => gt.free (.inl e.symm)
    have ztl := gt.lt
    go_wp2_with fail
    clear zt0 zt1 zt2 zt3 ztb ztc ztl
    have HChc40 : Hid (pRun n (.postfix_ lv true) R ≠ .out) := fun e => HN.out (by simp [unaryB, Res.bind, fail, ok1, hun.out, e])
    refine (ih.postfix_ true _ _ _ _ _ mr.ps mr.rem (mr.lv HL.out) hle HChc40.out).mono ?_
    rintro e w41 hpost
    rcases hc40 : pRun n (.postfix_ lv true) R with ⟨tshc40, Rhc40⟩ | ⟨en, p⟩ | _
    rotate_left
    · rw [hc40] at hpost
      have hb2 := Bad.trans mr.fr hpost
      obtain ⟨rfl, _⟩ := hpost
      exact Or.inl ⟨rfl, PostN.bad hb2 (by simp [unaryB, Res.bind, fail, ok1, hun.out, hc40])⟩
    · exact absurd hc40 HChc40.out
    rw [hc40] at hpost
    obtain ⟨shc40, khc40, thc40, rfl, rfl, mm⟩ := hpost
    have m42 := mr.call mm
    have Hhc40 := hidden hc40
    clear mm mr hc40 HChc40
    go_wp2_with fail
    (try simp only [Exit.inBlock, Exit.then])
    change Leaves _ _ _ _ [] FrameMode.returning _
    exact ⟨_, results_tmp rfl _ _ _, PostN.fin m42 (by simp [unaryB, Res.bind, fail, ok1, hun.out, Hhc40.out])⟩

end Go.Proofs.YtgdamcmfdhhheaaGreatDoor

/- append(kids, list...) at a list that may be nil. -/
namespace Go.Proofs.YtgdamcmfdhhheaaGreatDoor
open Go.RowKit Bf
section
variable {P : Program} {w : World}

theorem run_append_none (t ty e : TypeId) (i : TypeInfo) (z : Value) (ht : P.underlying t = some (.slice e)) (hi : P.info? e = some i) (hz : i.zero = some z)
    (b : Addr) (n c : Nat) (hc : n ≤ c) :
    (Builtin.append_ #[t, t] ty #[.slice (some b) n c, .slice none 0 0]).run P w = .ok (.slice (some b) n c) w := by
  have h1 : (n : Int) ≤ (c : Int) := by omega
  have h2 : ∀ a, (storeCells a []).run P w = .ok () w := fun a => by simp [storeCells]
  simp [Builtin.append_, run_underlying ht, sizeOf, typeInfo, zeroValue, hi, hz, Builtin.lenOf, hc, h1, run_firstCells_none, h2]

theorem run_append_spread (t ty : TypeId) (base base2 : Nat) (e : TypeId) (i : TypeInfo) (z : Value) (bytes : Nat) (ht : P.underlying t = some (.slice e)) (hi : P.info? e = some i) (hz : i.zero = some z)
    (hsize : i.size = 1) (hby : i.bytes = bytes) (hzs : z.cells.size = 1)
    (v : Value) (n : Nat) (xs : List Value) (hown : w.ownsRow base e 1 v n xs) (hn : 0 < n)
    (x : Value) (m : Nat) (ys : List Value) (hx : w.ownsRow base2 e 1 x m ys) (h1 : ∀ u ∈ ys, u.oneCell' = true)
    (h63 : n + m ≤ maxLen) (hbytes : (n + m) * bytes ≤ 140737488355328) (hbase : base ≤ w.heap.size) (H : Nat) (hH : w.heap.size = H) :
    ∃ g cap w', (Builtin.append_ #[t, t] ty #[v, x]).run P w = .ok (.slice (some ⟨g, 0, none⟩) (n + m) cap) w' ∧
      w'.ownsRow base e 1 (.slice (some ⟨g, 0, none⟩) (n + m) cap) (n + m) (xs ++ ys) ∧ w.grownBy w' v.ownBlock ∧ (v.ownBlock = some g ∨ g = H) := by
  have hv := hown
  obtain ⟨_, ⟨_, h0⟩ | ⟨g0, cap0, cur0, rfl, hb0, hg0, hc0, hm0, hs0, ht0⟩⟩ := hv
  · omega
  have hx2 := hx
  obtain ⟨hly, ⟨rfl, rfl⟩ | ⟨g, c, cur, rfl, hb, hg, hc, hm, hs, hty⟩⟩ := hx2
  · have hys : ys = [] := List.eq_nil_of_length_eq_zero (by omega)
    subst hys
    refine ⟨g0, cap0, w, run_append_none t ty e i z ht hi hz _ n cap0 hc0, by simpa using hown, ⟨rfl, rfl, rfl, Nat.le_refl _, fun _ _ _ => rfl⟩, .inl rfl⟩
  · obtain ⟨v', w', hr, h2, h3, _, h5⟩ := run_append_own_at (P := P) w base t ty e i z 1 bytes ht hi hz hsize hby hzs (by omega) _ n xs hown ⟨g, 0, none⟩ m c ys hly (fun j u hu => by
      rw [← hty, List.getElem?_take] at hu
      split at hu
      · exact World.news_of_block hg j u hu
      · cases hu) h1 h63 hbytes hbase
    obtain ⟨g', cap', rfl, _, hlt⟩ := h2.form (by omega)
    refine ⟨g', cap', w', hr, h2, h3, ?_⟩
    rcases h5 with h5 | h5
    · exact .inl (by rw [← h5]; rfl)
    · right
      have : g' = w.heap.size := by simpa [Value.ownBlock] using h5
      rw [this, hH]

/-- At a step of a region that draws its order. -/
theorem step_append_spread {ops : Array Oper} {o : Oper} {a : Act} {K : Act → World → Prop} {Q : Exit → Act → World → Prop} {E : Prop} (hgd : o.guard = none) (s x : Operand) (t : TypeId)
    (ho : o.op = .call { callee := .builtin .append, args := #[s, x], argTypes := #[t, t] })
    (base base2 : Nat) (e : TypeId) (i : TypeInfo) (z : Value) (bytes : Nat) (ht : P.underlying t = some (.slice e)) (hi : P.info? e = some i) (hz : i.zero = some z)
    (hsize : i.size = 1) (hby : i.bytes = bytes) (hzs : z.cells.size = 1)
    (v : Value) (n : Nat) (xs : List Value) (hs : a.eval s = v) (hown : w.ownsRow base e 1 v n xs) (hn : 0 < n)
    (y : Value) (m : Nat) (ys : List Value) (hx : a.eval x = y) (hy : w.ownsRow base2 e 1 y m ys) (h1 : ∀ u ∈ ys, u.oneCell' = true)
    (h63 : n + m ≤ maxLen) (hbytes : (n + m) * bytes ≤ 140737488355328) (hbase : base ≤ w.heap.size) (H : Nat) (hH : w.heap.size = H)
    (h : ∀ g cap w', w'.ownsRow base e 1 (.slice (some ⟨g, 0, none⟩) (n + m) cap) (n + m) (xs ++ ys) → w.grownBy w' v.ownBlock → (v.ownBlock = some g ∨ g = H) → K (a.put o.dst (.slice (some ⟨g, 0, none⟩) (n + m) cap)) w') :
    if Region.wanted o (yielded ops a.tmps) = true then Oper.wp P o a w K Q else E := by
  have hw : Region.wanted o (yielded ops a.tmps) = true := by simp [Region.wanted, hgd]
  rw [if_pos hw]
  obtain ⟨g, cap, w', hr, h2, h3, h4⟩ := run_append_spread (P := P) (w := w) t o.type base base2 e i z bytes ht hi hz hsize hby hzs v n xs hown hn y m ys hy h1 h63 hbytes hbase H hH
  unfold Oper.wp execOp
  simp only [ho, resolve, invoke, builtin, Sem.run_bind, Sem.run_pure, Result.andThen_ok, List.map_toArray, List.map_cons, List.map_nil, hs, hx, hr]
  exact h g cap w' h2 h3 h4
end

/-- A list is appended to a slice of the walk's own. -/
theorem Mid.spread {c : Cx} {w wi w1 : World} {s si : St} {R : List Tok} {TS : List T} {KS : List Nat} {d : Nat} {kv : Value} {ks ls : List Nat} {g cap : Nat}
    (h : Mid c w s wi si R TS KS d) (l : Lst c w wi si kv ks) (hg : wi.grownBy w1 kv.ownBlock)
    (hown : w1.ownsRow (c.bp + 1) 3 1 (.slice (some ⟨g, 0, none⟩) (ks.length + ls.length) cap) (ks.length + ls.length) (ints ks ++ ints ls))
    (hat : kv.ownBlock = some g ∨ wi.heap.size ≤ g) :
    Mid c w s w1 si R TS KS d ∧ Lst c w w1 si (.slice (some ⟨g, 0, none⟩) (ks.length + ls.length) cap) (ks ++ ls) := by
  have hbp := h.ps.bp_lt
  refine ⟨h.grown hg (fun k e => ?_), ⟨?_, fun k' e => ?_⟩⟩
  · have := l.new k e.symm.symm
    exact ⟨this.1, by omega, this.2.1⟩
  · show w1.ownsRow _ _ _ _ (ks ++ ls).length (ints (ks ++ ls))
    have e1 : ints (ks ++ ls) = ints ks ++ ints ls := by simp [ints]
    rw [e1, List.length_append]
    exact hown
  · have e' : g = k' := by simpa [Value.ownBlock] using e
    subst e'
    rcases hat with e | e
    · exact l.new _ e
    · exact ⟨fun ho => by have := (h.ps.own_ge ho).2; omega, Nat.le_trans h.fr.size e, by omega⟩

theorem Lst.base {c : Cx} {w wD wi : World} {si : St} {v : Value} {ks : List Nat} (h : Lst c wD wi si v ks) (hs : w.heap.size ≤ wD.heap.size) : Lst c w wi si v ks :=
  ⟨h.row, fun k e => ⟨(h.new k e).1, Nat.le_trans hs (h.new k e).2.1, (h.new k e).2.2⟩⟩

theorem ints_one (ks : List Nat) : ∀ u ∈ ints ks, u.oneCell' = true := by
  intro u hu
  simp only [ints, List.mem_map] at hu
  obtain ⟨k, _, rfl⟩ := hu
  rfl

end Go.Proofs.YtgdamcmfdhhheaaGreatDoor

/- What stands behind a value: the plain part. -/
namespace Go.Proofs.YtgdamcmfdhhheaaGreatDoor
open Go.RowKit Bf

structure FrB (c : Cx) (w : World) (s : St) (w' : World) (s' : St) : Prop where
  fr : Fr c w s w' s'

structure PostAt (n lv : Nat) (calls : Bool) (pos : Nat) (r : Res (List T)) (m : Nat) (t : T) (R : List Tok) : Prop where
  le : m ≤ n
  eq : r = pRun m (.postTail lv calls pos t) R

section
variable {n lv po m : Nat} {calls : Bool} {r : Res (List T)} {t : T} {R : List Tok}

theorem PostAt.pos (h : PostAt n lv calls po r m t R) (hne : r ≠ .out) : ∃ k, m = k + 1 := by
  cases m with
  | zero => exact absurd h.eq hne
  | succ k => exact ⟨k, rfl⟩

theorem PostAt.dotBad (h : PostAt n lv calls po r (m + 1) t R) (h1 : isTok (hd R) [46] = true) (k1 : ((hd R.tail).kind == 1) = false) (k2 : ((hd R.tail).kind == 2) = false) : r = .err 5 (hd R.tail).pos := by
  rw [h.eq]
  simp [pRun, pStep, postTailB, h1, k1, k2, fail]

theorem PostAt.dot (h : PostAt n lv calls po r (m + 1) t R) (h1 : isTok (hd R) [46] = true) (k : ((hd R.tail).kind == 1) = true ∨ ((hd R.tail).kind == 2) = true) :
    PostAt n lv calls po r m (.node 34 po (hd R.tail).text 0 [t]) R.tail.tail := by
  refine ⟨Nat.le_of_succ_le h.le, ?_⟩
  rw [h.eq]
  rcases k with k | k <;> simp [pRun, pStep, postTailB, h1, k]

theorem PostAt.idx (h : PostAt n lv calls po r (m + 1) t R) (hne : r ≠ .out) (h1 : isTok (hd R) [46] = false) (h2 : isTok (hd R) [91] = true) :
    r = (pRun n (.assign lv) R.tail).bind fun v r' => (need [93] r').bind fun _ r' => pRun m (.postTail lv calls po (.node 35 po [] 0 (t :: v))) r' := by
  have h3 := h.eq
  simp only [pRun, pStep, postTailB, h1, h2, Bool.false_eq_true, if_false, if_true] at h3
  have hm : pRun m (.assign lv) R.tail ≠ .out := fun e => hne (by rw [h3, e]; rfl)
  rw [pRun_mono (Nat.le_of_succ_le h.le) _ _ hm]
  exact h3

theorem PostAt.call (h : PostAt n lv true po r (m + 1) t R) (hne : r ≠ .out) (h1 : isTok (hd R) [46] = false) (h2 : isTok (hd R) [91] = false) (h4 : isTok (hd R) [40] = true) :
    r = (pRun n (.list lv [41] 64 .assign 0) R.tail).bind fun ks r' => pRun m (.postTail lv true po (.node 36 po [] 0 (t :: ks))) r' := by
  have h3 := h.eq
  simp only [pRun, pStep, postTailB, h1, h2, h4, Bool.false_eq_true, if_false, if_true, Bool.and_self] at h3
  have hm : pRun m (.list lv [41] 64 .assign 0) R.tail ≠ .out := fun e => hne (by rw [h3, e]; rfl)
  rw [pRun_mono (Nat.le_of_succ_le h.le) _ _ hm]
  exact h3

theorem PostAt.stop (h : PostAt n lv calls po r (m + 1) t R) (h1 : isTok (hd R) [46] = false) (h2 : isTok (hd R) [91] = false) (h4 : (calls && isTok (hd R) [40]) = false) : r = .ok [t] R := by
  rw [h.eq]
  simp only [pRun, pStep, postTailB, h1, h2, h4, Bool.false_eq_true, if_false]
end

theorem cell_alloc_drew {w : World} {a : Addr} {v : Value} (o : Obj) (h : w.drew.cell? a = some v) : (w.alloc o).drew.cell? a = some v := by
  have hl : a.block < w.drew.heap.size := World.block_lt_of_cell? _ _ h
  have hl' : a.block < w.heap.size := hl
  exact (World.cell?_of_block (((Below.refl w.heap.size w).alloc (Nat.le_refl _) o).drew.block a.block hl')).trans h
theorem cell_alloc' {w : World} {a : Addr} {v : Value} (o : Obj) (h : w.cell? a = some v) : (w.alloc o).cell? a = some v := by
  have hl' : a.block < w.heap.size := World.block_lt_of_cell? _ _ h
  exact (World.cell?_of_block (((Below.refl w.heap.size w).alloc (Nat.le_refl _) o).block a.block hl')).trans h

end Go.Proofs.YtgdamcmfdhhheaaGreatDoor
