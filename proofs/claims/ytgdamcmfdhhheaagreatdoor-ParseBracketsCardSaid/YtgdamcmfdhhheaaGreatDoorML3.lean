/- num.Text and str.Quote: some string. -/
import Derived.Test.YtgdamcmfdhhheaaGreatDoorML2
import Derived.Laws.FloatArith
import Derived.Lib.ItoaLen
import Derived.Lib.AppendIntMem
import Derived.Lib.QuietBelow
import Derived.Deep.RegionHeld2
set_option linter.all false

namespace Go.Proofs.YtgdamcmfdhhheaaGreatDoor
open Go.RowKit Bf

def PowTab (w : World) : Prop := Lib.TabIs Tryz.prog w "internal/strconv.uint64pow10" .u64 Lib.pow10Tab

theorem PowTab.below {w w' : World} (h : PowTab w) (hb : Below w.heap.size w w') : PowTab w' := Lib.tabBelow_of_tabIs h w' hb

theorem wrap_range (n : Int) : -9223372036854775808 ≤ IntKind.i64.wrap n ∧ IntKind.i64.wrap n ≤ 9223372036854775807 := by
  simp [IntKind.wrap, IntKind.bits, IntKind.signed]
  split <;> omega

theorem run_convert_any (x : Nat) (w : World) : ∃ n w', (convert 29 2 (.float .f64 x)).run Tryz.prog w = .ok (.int .i64 n) w' ∧ -9223372036854775808 ≤ n ∧ n ≤ 9223372036854775807 ∧ Below w.heap.size w w' := by
  have e : (convert 29 2 (.float .f64 x)).run Tryz.prog w = (Conv.floatToInt .f64 x .i64).run Tryz.prog w := by simp [convert, run_underlying Tryz.underlying29, run_underlying Tryz.underlying2]
  rw [e]
  have hany : ∃ n w', (do pure (Value.int .i64 (IntKind.i64.wrap (← choose (.floatToInt .f64 x .i64)))) : Sem Value).run Tryz.prog w = .ok (.int .i64 n) w' ∧ -9223372036854775808 ≤ n ∧ n ≤ 9223372036854775807 ∧ Below w.heap.size w w' := by
    simp only [Sem.run_bind, run_choose_drew]
    split
    · exact ⟨_, _, rfl, (wrap_range _).1, (wrap_range _).2, Below.refl _ _⟩
    · exact ⟨_, _, rfl, (wrap_range _).1, (wrap_range _).2, (Below.refl _ _).drew⟩
  unfold Conv.floatToInt
  simp only
  split
  · rename_i n hn
    split
    · rename_i hr
      exact ⟨n, w, rfl, hr.1, hr.2, Below.refl _ _⟩
    · exact hany
  · exact hany

set_option maxRecDepth 100000 in
set_option maxHeartbeats 2000000 in
theorem numText_calls (x : Nat) (hm : mayN x = true) (hx : FloatKind.f64.format.order x x = some .eq) (w : World) (ht : PowTab w) :
    Calls Tryz.prog 39 #[.float .f64 x] w fun e w' => ∃ t : List UInt8, e = .returned (.string ⟨t.toArray⟩) ∧ t.length ≤ 100000 ∧ Below w.heap.size w w' := by
  have hmc := fun w => may_calls x w
  rw [hm] at hmc
  have h2 : (FloatKind.f64.format.order x x != some .eq) = false := by rw [hx]; rfl
  obtain ⟨n, w1, hcv, hn1, hn2, hb⟩ := run_convert_any x w
  have ht1 := ht.below hb
  have hf := Tryz.strconv_FormatInt_10 n hn1 hn2 w1 ht1
  have hlen := Lib.itoa_length_le n hn1 hn2
  go_enter Tryz.func39, Tryz.ntmps39
  go_wp2_with (first | (go_at_call 51; refine (hmc _).mono ?_; rintro e w3 ⟨rfl, rfl⟩) | (go_at_call 70; refine hf.mono ?_; rintro e w4 ⟨rfl, k, os, rfl⟩))
  go_ret
  exact ⟨_, rfl, by omega, hb.trans ⟨rfl, rfl, rfl, (below_regrown w1 _ os).size, fun q hq => (below_regrown w1 (w1.drawn + k) os).block q (Nat.lt_of_lt_of_le hq hb.size)⟩⟩

theorem writeByteI (B b : Nat) (l : List UInt8) (v : Int) (h0 : 0 ≤ v) (h1 : v < 256) (w : World) (h : IsB B b l w) (hlen : l.length ≤ 1000000) (hBw : B ≤ w.heap.size) :
    Calls Tryz.prog 37 #[.pointer (some ⟨b, 0, none⟩), .int .u8 v] w fun e w' => e = .returned .nilIface ∧ IsB B b (l ++ [UInt8.ofNat v.toNat]) w' ∧ Below B w w' := by
  have e : v = ((UInt8.ofNat v.toNat).toNat : Nat) := by simp [UInt8.toNat_ofNat']; omega
  have := writeByte_calls B b l (UInt8.ofNat v.toNat) w h hlen hBw
  rw [← e] at this
  exact this

theorem sixteen_calls (n : Int) (h0 : 0 ≤ n) (h1 : n < 16) (w : World) : Calls Tryz.prog 71 #[.int .u8 n] w fun e w' => ∃ v : Int, 0 ≤ v ∧ v < 256 ∧ e = .returned (.int .u8 v) ∧ w' = w := by
  go_enter Tryz.func71, Tryz.ntmps71
  go_wp2
  all_goals go_ret
  all_goals refine ⟨_, ?_, ?_, rfl, rfl⟩
  all_goals first | omega | (simp; omega)

set_option maxRecDepth 100000 in
set_option maxHeartbeats 4000000 in
theorem quote_calls (s : List UInt8) (hs : s.length ≤ 65536) (w : World) : Calls Tryz.prog 40 #[.string ⟨s.toArray⟩] w fun e w' => ∃ t : List UInt8, e = .returned (.string ⟨t.toArray⟩) ∧ t.length ≤ 400000 ∧ Below w.heap.size w w' := by
  have hb0 := Lib.fresh_isBuilder 83 5 w
  go_enter Tryz.func40, Tryz.ntmps40
  go_wp2_with (go_at_call 37; refine (writeByteI _ _ [] 34 (by omega) (by omega) _ hb0 (by simp) (by simp)).mono ?_; rintro e w1 ⟨rfl, hb1, hbel1⟩)
  go_loopg [9] s.length (fun m u wr => ∃ (i : Nat) (acc : List UInt8), .int .i64 (i : Nat) = u ∧ i + m = s.length ∧ acc.length ≤ 4 * i + 1 ∧ IsB w.heap.size w.heap.size acc wr ∧ Below w.heap.size w wr)
  case atStart => exact ⟨0, _, rfl, by omega, by simp, hb1, ((Below.refl _ _).alloc (Nat.le_refl _) _).trans hbel1⟩
  case round =>
    clear hb0 hb1 hbel1
    obtain ⟨i, acc, rfl, hm, hacc, hbi, hbw⟩ := hrel
    have hsz := hbw.size
    by_cases h : i < s.length
    case neg =>
      have hl : ((i : Int) < (s.length : Int)) = False := by simp; omega
      go_wp2_with (first | (go_at_call 37; refine (writeByteI _ _ _ 34 (by omega) (by omega) _ hbi (by omega) hsz).mono ?_; rintro e w1 ⟨rfl, hb1, hbel1⟩; have hbw1 := hbw.trans hbel1; have hsz1 := hbw1.size) | (go_at_call 42; refine (Tryz.Builder_String_any _ _ _ _ hb1 hsz1).mono ?_; rintro e w' ⟨rfl, hb2⟩))
      go_ret
      exact ⟨_, rfl, by simp; omega, hbw1.trans hb2⟩
    case pos =>
      have hl : ((i : Int) < (s.length : Int)) = True := by simp; omega
      obtain ⟨m, rfl⟩ : ∃ m, gk = m + 1 := ⟨gk - 1, by omega⟩
      have hbi0 : i < (⟨s.toArray⟩ : ByteArray).size := by simpa [ByteArray.size] using h
      obtain ⟨c, hc, hc1⟩ : ∃ c : Nat, ((⟨s.toArray⟩ : ByteArray)[i]'hbi0).toNat = c ∧ c < 256 := ⟨_, rfl, UInt8.toNat_lt _⟩
      go_wp2_with (first
        | (go_at_call 37; refine (writeByteI _ _ _ _ (by omega) (by omega) _ hbi (by first | omega | (simp; omega)) hsz).mono ?_; rintro e w1 ⟨rfl, hbi, hbel1⟩; have hbw := hbw.trans hbel1; have hsz := hbw.size)
        | (go_at_call 38; refine (writeString_calls _ _ _ _ _ hbi (by first | omega | (simp; omega)) (by decide) hsz).mono ?_; rintro e w1 ⟨rfl, hbi, hbel1⟩; have hbw := hbw.trans hbel1; have hsz := hbw.size)
        | (go_at_call 71; refine (sixteen_calls _ (by omega) (by omega) _).mono ?_; rintro e w1 ⟨v, hv0, hv1, rfl, rfl⟩))
      all_goals go_roundg m
      all_goals first
        | omega
        | exact ⟨i + 1, _, rfl, by omega, by simp; omega, hbi, hbw⟩

end Go.Proofs.YtgdamcmfdhhheaaGreatDoor

/- lex.may and lex.Text, walked. -/
namespace Go.Proofs.YtgdamcmfdhhheaaGreatDoor
open Go.RowKit Bf

def eqZ (x : Nat) : Bool := FloatKind.f64.format.order x 0 == some .eq
def geZ (x : Nat) : Bool := FloatKind.f64.format.order x 0 == some .gt || FloatKind.f64.format.order x 0 == some .eq

/-- May the token be? (one that is not the end) -/
def tokOk (t : Tok) : Bool :=
  if t.kind = 3 then t.text == [] && geZ t.num && mayN t.num
  else if t.kind = 4 then eqZ t.num && decide (t.text.length ≤ 4096)
  else if t.kind = 5 then eqZ t.num && sign t.text
  else if t.kind = 1 ∨ t.kind = 2 then
    eqZ t.num && t.text != [] && decide (t.text.length ≤ 4096) && bKind (t.text.headD 0) == 1 && nameLen t.text == t.text.length && (word t.text == (t.kind == 2))
  else false

theorem cell_at {w : World} {B : Nat} {cs : Array Value} {t : TypeId} (h : (w.alloc (.cells cs t)).heap[B]? = some (.cells cs t (0, 0))) (j : Nat) {v : Value} (hv : cs[j]? = some v) : ((w.alloc (.cells cs t)).drew).cell? ⟨B, j, none⟩ = some v := by
  have h' : ((w.alloc (.cells cs t)).drew).heap[B]? = some (.cells cs t (0, 0)) := h
  simp only [World.cell?, h']
  exact hv

set_option maxRecDepth 100000 in
set_option maxHeartbeats 20000000 in
theorem lexMay_name (pos : Nat) (text : List UInt8) (num : Nat) (hl : text.length ≤ 65536) (w : World) (hg : Ground w) (hok : tokOk ⟨1, pos, text, num⟩ = true) :
    Calls Tryz.prog 36 #[.agg #[.int .u8 1, .int .i64 pos, .string ⟨text.toArray⟩, .float .f64 num]] w fun e w' => e = .returned (.bool true) ∧ Below w.heap.size w w' := by
  have bl : ∀ o, Below w.heap.size w (w.alloc o) := fun o => (Below.refl _ _).alloc (Nat.le_refl _) o
  have hgo := fun o => hg.below (bl o) hg.pos
  have bd : ∀ o, Below w.heap.size w ((w.alloc o).drew) := fun o => (bl o).drew
  have e : tokOk ⟨1, pos, text, num⟩ = (eqZ num && text != [] && decide (text.length ≤ 4096) && bKind (text.headD 0) == 1 && nameLen text == text.length && (word text == false)) := rfl
  rw [e] at hok
  simp only [Bool.and_eq_true, beq_iff_eq, bne_iff_ne, ne_eq, decide_eq_true_eq] at hok
  obtain ⟨⟨⟨⟨⟨hz, h0⟩, h4⟩, hb⟩, hn⟩, hw⟩ := hok
  have hwc := fun o => word_calls text hl ((w.alloc o).drew) (hgo o)
  have hrc := fun w => run_calls text hl w
  have hkc := fun w => kind_calls (text.headD 0) w
  rw [hw] at hwc
  rw [hn] at hrc
  rw [hb] at hkc
  have e1 : (FloatKind.f64.format.order num 0 == some .eq) = true := hz
  have hie : text.isEmpty = false := by cases text <;> simp at h0 ⊢
  have hh : ∀ h, (⟨text.toArray⟩ : ByteArray)[0]'h = text.headD 0 := fun h => by cases text with | nil => exact absurd rfl h0 | cons c t => rfl
  have hpos : 0 < text.length := List.length_pos_iff.2 h0
  generalize text.headD 0 = b at hh hkc
  have e3 : ((text.length : Int) ≤ 4096) = True := by simp; omega
  have HK := hidden hkc
  have HR := hidden hrc
  have HW := hidden hwc
  clear hkc hrc hwc hgo hz h0 h4 hb hn hw e
  have hc := heap_alloc_new w (.cells #[.int .u8 1, .int .i64 pos, .string ⟨text.toArray⟩, .float .f64 num] 59)
  have c0 : ((w.alloc (.cells #[.int .u8 1, .int .i64 pos, .string ⟨text.toArray⟩, .float .f64 num] 59)).drew).cell? ⟨w.heap.size, 0, none⟩ = some (.int .u8 1) := cell_at hc 0 rfl
  have c2 : ((w.alloc (.cells #[.int .u8 1, .int .i64 pos, .string ⟨text.toArray⟩, .float .f64 num] 59)).drew).cell? ⟨w.heap.size, 2, none⟩ = some (.string ⟨text.toArray⟩) := cell_at hc 2 rfl
  have c3 : ((w.alloc (.cells #[.int .u8 1, .int .i64 pos, .string ⟨text.toArray⟩, .float .f64 num] 59)).drew).cell? ⟨w.heap.size, 3, none⟩ = some (.float .f64 num) := cell_at hc 3 rfl
  clear hc
  go_enter Tryz.func36, Tryz.ntmps36
  go_wp2_with fail
  go_region_held2 (fun w' => w'.cell? ⟨w.heap.size, 0, none⟩ = some (.int .u8 1) ∧ w'.cell? ⟨w.heap.size, 2, none⟩ = some (.string ⟨text.toArray⟩) ∧ w'.cell? ⟨w.heap.size, 3, none⟩ = some (.float .f64 num))
    (first | (refine ⟨?_, ?_, ?_⟩ <;> assumption) | go_keep)
    (first | (go_at_call 46; refine (HK.out _).mono ?_; rintro e w3 ⟨rfl, rfl⟩) | (go_at_call 47; refine (HR.out _).mono ?_; rintro e w3 ⟨rfl, rfl⟩) | (go_at_call 48; refine (HW.out _).mono ?_; rintro e w3 ⟨rfl, rfl⟩))
  all_goals go_wp2_with fail
  all_goals go_ret
  all_goals exact ⟨rfl, bd _⟩

end Go.Proofs.YtgdamcmfdhhheaaGreatDoor

/- lex.may at a word. -/
namespace Go.Proofs.YtgdamcmfdhhheaaGreatDoor
open Go.RowKit Bf

set_option maxRecDepth 100000 in
set_option maxHeartbeats 20000000 in
theorem lexMay_word (pos : Nat) (text : List UInt8) (num : Nat) (hl : text.length ≤ 65536) (w : World) (hg : Ground w) (hok : tokOk ⟨2, pos, text, num⟩ = true) :
    Calls Tryz.prog 36 #[.agg #[.int .u8 2, .int .i64 pos, .string ⟨text.toArray⟩, .float .f64 num]] w fun e w' => e = .returned (.bool true) ∧ Below w.heap.size w w' := by
  have bl : ∀ o, Below w.heap.size w (w.alloc o) := fun o => (Below.refl _ _).alloc (Nat.le_refl _) o
  have hgo := fun o => hg.below (bl o) hg.pos
  have bd : ∀ o, Below w.heap.size w ((w.alloc o).drew) := fun o => (bl o).drew
  have e : tokOk ⟨2, pos, text, num⟩ = (eqZ num && text != [] && decide (text.length ≤ 4096) && bKind (text.headD 0) == 1 && nameLen text == text.length && (word text == true)) := rfl
  rw [e] at hok
  simp only [Bool.and_eq_true, beq_iff_eq, bne_iff_ne, ne_eq, decide_eq_true_eq] at hok
  obtain ⟨⟨⟨⟨⟨hz, h0⟩, h4⟩, hb⟩, hn⟩, hw⟩ := hok
  have hwc := fun o => word_calls text hl ((w.alloc o).drew) (hgo o)
  have hrc := fun w => run_calls text hl w
  have hkc := fun w => kind_calls (text.headD 0) w
  rw [hw] at hwc
  rw [hn] at hrc
  rw [hb] at hkc
  have e1 : (FloatKind.f64.format.order num 0 == some .eq) = true := hz
  have hie : text.isEmpty = false := by cases text <;> simp at h0 ⊢
  have hh : ∀ h, (⟨text.toArray⟩ : ByteArray)[0]'h = text.headD 0 := fun h => by cases text with | nil => exact absurd rfl h0 | cons c t => rfl
  have hpos : 0 < text.length := List.length_pos_iff.2 h0
  generalize text.headD 0 = b at hh hkc
  have e3 : ((text.length : Int) ≤ 4096) = True := by simp; omega
  have HK := hidden hkc
  have HR := hidden hrc
  have HW := hidden hwc
  clear hkc hrc hwc hgo hz h0 h4 hb hn hw e
  have hc := heap_alloc_new w (.cells #[.int .u8 2, .int .i64 pos, .string ⟨text.toArray⟩, .float .f64 num] 59)
  have c0 : ((w.alloc (.cells #[.int .u8 2, .int .i64 pos, .string ⟨text.toArray⟩, .float .f64 num] 59)).drew).cell? ⟨w.heap.size, 0, none⟩ = some (.int .u8 2) := cell_at hc 0 rfl
  have c2 : ((w.alloc (.cells #[.int .u8 2, .int .i64 pos, .string ⟨text.toArray⟩, .float .f64 num] 59)).drew).cell? ⟨w.heap.size, 2, none⟩ = some (.string ⟨text.toArray⟩) := cell_at hc 2 rfl
  have c3 : ((w.alloc (.cells #[.int .u8 2, .int .i64 pos, .string ⟨text.toArray⟩, .float .f64 num] 59)).drew).cell? ⟨w.heap.size, 3, none⟩ = some (.float .f64 num) := cell_at hc 3 rfl
  clear hc
  go_enter Tryz.func36, Tryz.ntmps36
  go_wp2_with fail
  go_region_held2 (fun w' => w'.cell? ⟨w.heap.size, 0, none⟩ = some (.int .u8 2) ∧ w'.cell? ⟨w.heap.size, 2, none⟩ = some (.string ⟨text.toArray⟩) ∧ w'.cell? ⟨w.heap.size, 3, none⟩ = some (.float .f64 num))
    (first | (refine ⟨?_, ?_, ?_⟩ <;> assumption) | go_keep)
    (first | (go_at_call 46; refine (HK.out _).mono ?_; rintro e w3 ⟨rfl, rfl⟩) | (go_at_call 47; refine (HR.out _).mono ?_; rintro e w3 ⟨rfl, rfl⟩) | (go_at_call 48; refine (HW.out _).mono ?_; rintro e w3 ⟨rfl, rfl⟩))
  all_goals go_wp2_with fail
  all_goals go_ret
  all_goals exact ⟨rfl, bd _⟩

end Go.Proofs.YtgdamcmfdhhheaaGreatDoor

/- lex.may. -/
namespace Go.Proofs.YtgdamcmfdhhheaaGreatDoor
open Go.RowKit Bf

set_option maxRecDepth 100000 in
set_option maxHeartbeats 2000000 in
theorem lexMay_calls (t : Tok) (hk : t.kind < 256) (hl : t.text.length ≤ 65536) (h12 : t.kind = 1 ∨ t.kind = 2 → tokOk t = true) (w : World) (hg : Ground w) : Calls Tryz.prog 36 #[.agg (tokVals t).toArray] w fun e w' => e = .returned (.bool (tokOk t)) ∧ Below w.heap.size w w' := by
  obtain ⟨kind, pos, text, num⟩ := t
  simp only at hk hl h12
  change Calls _ _ #[.agg #[.int .u8 kind, .int .i64 pos, .string ⟨text.toArray⟩, .float .f64 num]] w _
  have bl : ∀ o, Below w.heap.size w (w.alloc o) := fun o => (Below.refl _ _).alloc (Nat.le_refl _) o
  have hgo := fun o => hg.below (bl o) hg.pos
  by_cases k3 : kind = 3
  · subst k3
    have e : tokOk ⟨3, pos, text, num⟩ = (text == [] && geZ num && mayN num) := rfl
    rw [e]
    generalize hm : mayN num = m
    have hmc := fun w => may_calls num w
    rw [hm] at hmc
    unfold geZ
    clear e
    go_enter Tryz.func36, Tryz.ntmps36
    go_wp2_with (go_at_call 51; refine (hmc _).mono ?_; rintro e w3 ⟨rfl, rfl⟩)
    all_goals go_ret
    all_goals refine ⟨?_, bl _⟩
    all_goals show Ending.returned (.bool _) = _
    all_goals congr 2
    all_goals simp_all
  by_cases k4 : kind = 4
  · subst k4
    have e : tokOk ⟨4, pos, text, num⟩ = (eqZ num && decide (text.length ≤ 4096)) := rfl
    rw [e]
    unfold eqZ
    clear e
    go_enter Tryz.func36, Tryz.ntmps36
    go_wp2_with fail
    all_goals go_ret
    all_goals refine ⟨?_, bl _⟩
    all_goals show Ending.returned (.bool _) = _
    all_goals congr 2
    all_goals simp_all
    all_goals omega
  by_cases k5 : kind = 5
  · subst k5
    have e : tokOk ⟨5, pos, text, num⟩ = (eqZ num && sign text) := rfl
    rw [e]
    generalize hm : sign text = m
    have hmc := fun o => sign_calls text hl (w.alloc o) (hgo o)
    rw [hm] at hmc
    unfold eqZ
    clear e
    go_enter Tryz.func36, Tryz.ntmps36
    go_wp2_with (go_at_call 54; refine (hmc _).mono ?_; rintro e w3 ⟨rfl, rfl⟩)
    all_goals go_ret
    all_goals refine ⟨?_, bl _⟩
    all_goals show Ending.returned (.bool _) = _
    all_goals congr 2
    all_goals simp_all
  by_cases k12 : kind = 1 ∨ kind = 2
  · have hok := h12 k12
    rw [hok]
    rcases k12 with rfl | rfl
    · exact lexMay_name pos text num hl w hg hok
    · exact lexMay_word pos text num hl w hg hok
  · have e : tokOk ⟨kind, pos, text, num⟩ = false := by
      unfold tokOk; simp only; rw [if_neg k3, if_neg k4, if_neg k5, if_neg k12]
    rw [e]
    have q1 : ((kind : Int) == 3) = false := by simp; omega
    have q2 : ((kind : Int) == 4) = false := by simp; omega
    have q3 : ((kind : Int) == 5) = false := by simp; omega
    have q4 : ((kind : Int) == 1) = false := by simp; omega
    have q5 : ((kind : Int) == 2) = false := by simp; omega
    clear e
    go_enter Tryz.func36, Tryz.ntmps36
    go_wp2_with fail
    go_ret
    exact ⟨rfl, bl _⟩

end Go.Proofs.YtgdamcmfdhhheaaGreatDoor

/- lex.Text at one token, walked. -/
namespace Go.Proofs.YtgdamcmfdhhheaaGreatDoor
open Go.RowKit Bf

structure Ground2 (w : World) : Prop where
  g : Ground w
  t : PowTab w

theorem Ground2.below {w w' : World} (h : Ground2 w) (hb : Below w.heap.size w w') : Ground2 w' := ⟨h.g.below hb h.g.pos, h.t.below hb⟩

theorem order_self {x : Nat} (h : FloatKind.f64.format.order x 0 ≠ none) : FloatKind.f64.format.order x x = some .eq := by
  unfold Ieee.Format.order at h ⊢
  cases hd : FloatKind.f64.format.read x with
  | nan s f => rw [hd] at h; simp [Ieee.Datum.order] at h
  | infinity s => simp [Ieee.Datum.order]
  | number s m e => simp [Ieee.Datum.order]

theorem geZ_self {x : Nat} (h : geZ x = true) : FloatKind.f64.format.order x x = some .eq := by
  refine order_self fun e => ?_
  unfold geZ at h
  rw [e] at h
  simp at h

theorem IsB.keep {B b : Nat} {l : List UInt8} {w w' : World} (h : IsB B b l w) (hb : Below w.heap.size w w') : IsB B b l w' := by
  have one : ∀ p, Lib.BuilderAt 83 5 B b p (Lib.byteCells l) w → Lib.BuilderAt 83 5 B b p (Lib.byteCells l) w' := by
    rintro p ⟨hB, v, hbk, hown, hne⟩
    exact ⟨hB, v, (hb.block b (Array.getElem?_eq_some_iff.1 hbk).1).trans hbk, ownsRow_same hown (fun k e => hb.block k (hown.lt k e).2), hne⟩
  exact h.imp (one _) (one _)

theorem below_step {w wr w2 : World} {o : Obj} (h : Below w.heap.size w wr) (h2 : Below (wr.alloc o).heap.size (wr.alloc o) w2) : Below w.heap.size w w2 :=
  (h.alloc h.size o).trans ⟨h2.os, h2.tape, h2.output, h2.size, fun k hk => h2.block k (by have := h.size; simp; omega)⟩

def PostLT (w : World) (t : Tok) (e : Ending) (w' : World) : Prop :=
  Below w.heap.size w w' ∧ ∃ (s : ByteArray) (n : Nat), e = .returned (.tuple #[.string s, .int .i64 (n : Nat)]) ∧ (tokOk t = true → n = 0 ∨ n = 3) ∧ (tokOk t = false → n = 5)

set_option maxRecDepth 100000 in
set_option maxHeartbeats 8000000 in
theorem lexText_end (g : Nat) (p : Nat) (w : World) (h : w.heap[g]? = some (.cells #[.int .u8 0, .int .i64 p, .string ⟨#[]⟩, .float .f64 0] 59 (0, 0))) :
    Calls Tryz.prog 25 #[.slice (some ⟨g, 0, none⟩) 1 1] w fun e w' => Below w.heap.size w w' ∧ e = .returned (.tuple #[.string ⟨#[]⟩, .int .i64 0]) := by
  have c0 : w.cell? ⟨g, 0, none⟩ = some (.int .u8 0) := by simp [World.cell?, h]
  have c2 : w.cell? ⟨g, 2, none⟩ = some (.string ⟨#[]⟩) := by simp [World.cell?, h]
  have c3 : w.cell? ⟨g, 3, none⟩ = some (.float .f64 0) := by simp [World.cell?, h]
  have hz : FloatKind.f64.format.order 0 0 = some .eq := by decide
  go_enter Tryz.func25, Tryz.ntmps25
  go_wp2_with fail
  go_loopg [45] 1 (fun m u wr => .int .i64 0 = u ∧ wr = w)
  case atStart => exact ⟨rfl, rfl⟩
  case round =>
    obtain ⟨rfl, rfl⟩ := hrel
    go_wp2_with fail
    have hb0 := Lib.fresh_isBuilder 83 5 wr
    go_loopg [57] 1 (fun m u w2 => .int .i64 0 = u ∧ w2 = wr.alloc (.cells #[.pointer none, .slice none 0 0] 83))
    case atStart => exact ⟨rfl, rfl⟩
    case round =>
      obtain ⟨rfl, rfl⟩ := hrel
      go_wp2_with (go_at_call 42; refine (Tryz.Builder_String_any _ _ [] _ hb0 (by simp)).mono ?_; rintro e w' ⟨rfl, hb2⟩)
      go_ret2
      exact ⟨((Below.refl _ _).alloc (Nat.le_refl _) _).trans hb2, rfl⟩

set_option maxRecDepth 100000 in
set_option maxHeartbeats 8000000 in
theorem lexText_one (g : Nat) (t : Tok) (p : Nat) (hk : t.kind < 256) (hl : t.text.length ≤ 65536) (h12 : t.kind = 1 ∨ t.kind = 2 → tokOk t = true) (w : World) (hg : Ground2 w)
    (h : w.heap[g]? = some (.cells #[.int .u8 t.kind, .int .i64 t.pos, .string ⟨t.text.toArray⟩, .float .f64 t.num, .int .u8 0, .int .i64 p, .string ⟨#[]⟩, .float .f64 0] 59 (0, 0))) :
    Calls Tryz.prog 25 #[.slice (some ⟨g, 0, none⟩) 2 2] w (PostLT w t) := by
  have c0 : w.cell? ⟨g, 0, none⟩ = some (.int .u8 t.kind) := by simp [World.cell?, h]
  have c1 : w.cell? ⟨g, 1, none⟩ = some (.int .i64 t.pos) := by simp [World.cell?, h]
  have c2 : w.cell? ⟨g, 2, none⟩ = some (.string ⟨t.text.toArray⟩) := by simp [World.cell?, h]
  have c3 : w.cell? ⟨g, 3, none⟩ = some (.float .f64 t.num) := by simp [World.cell?, h]
  have c4 : w.cell? ⟨g, 4, none⟩ = some (.int .u8 0) := by simp [World.cell?, h]
  have c6 : w.cell? ⟨g, 6, none⟩ = some (.string ⟨#[]⟩) := by simp [World.cell?, h]
  have c7 : w.cell? ⟨g, 7, none⟩ = some (.float .f64 0) := by simp [World.cell?, h]
  have hz : FloatKind.f64.format.order 0 0 = some .eq := by decide
  have hglt : g < w.heap.size := (Array.getElem?_eq_some_iff.1 h).1
  go_enter Tryz.func25, Tryz.ntmps25
  go_wp2_with fail
  go_loopg [45] 1 (fun m u wr => ∃ k : Nat, .int .i64 (k : Nat) = u ∧ k + m = 1 ∧ Below w.heap.size w wr ∧ (k = 1 → tokOk t = true))
  case atStart => exact ⟨0, rfl, rfl, Below.refl _ _, by simp⟩
  case round =>
    obtain ⟨k, rfl, hkm, hbel, hok⟩ := hrel
    have hB : wr.heap[g]? = _ := (hbel.block g hglt).trans h
    clear c0 c1 c2 c3 c4 c6 c7
    have hgr := hg.below hbel
    by_cases hk0 : k = 0
    · subst hk0
      have c0 : wr.cell? ⟨g, 0, none⟩ = some (.int .u8 t.kind) := by simp [World.cell?, hB]
      have c1 : wr.cell? ⟨g, 1, none⟩ = some (.int .i64 t.pos) := by simp [World.cell?, hB]
      have c2 : wr.cell? ⟨g, 2, none⟩ = some (.string ⟨t.text.toArray⟩) := by simp [World.cell?, hB]
      have c3 : wr.cell? ⟨g, 3, none⟩ = some (.float .f64 t.num) := by simp [World.cell?, hB]
      have hmay := fun o => lexMay_calls t hk hl h12 (wr.alloc o) (hgr.g.below ((Below.refl _ _).alloc (Nat.le_refl _) o) hgr.g.pos)
      obtain rfl : gk = 1 := by omega
      cases htk : tokOk t
      · rw [htk] at hmay
        have HM := hidden hmay
        clear hmay h12 hok
        go_wp2_with (go_at_call 36; refine (HM.out _).mono ?_; rintro e w2 ⟨rfl, hb2⟩)
        go_ret2
        exact ⟨below_step hbel hb2, ⟨#[]⟩, 5, rfl, by simp [htk], fun _ => rfl⟩
      · rw [htk] at hmay
        have HM := hidden hmay
        clear hmay h12 hok
        go_wp2_with (go_at_call 36; refine (HM.out _).mono ?_; rintro e w2 ⟨rfl, hb2⟩)
        go_roundg 0
        case measure => omega
        case rel => exact ⟨1, rfl, rfl, below_step hbel hb2, fun _ => htk⟩
    · obtain rfl : k = 1 := by omega
      have htk := hok rfl
      have htk0 := hidden htk
      clear hok
      go_wp2_with fail
      obtain ⟨W0, hW0⟩ : ∃ x, x = wr := ⟨_, rfl⟩
      subst hW0
      have hb0 := Lib.fresh_isBuilder 83 5 W0
      have hglt2 : g < W0.heap.size := (Array.getElem?_eq_some_iff.1 hB).1
      go_loopg [57] 1 (fun m u wr => ∃ (k : Nat) (acc : List UInt8), .int .i64 (k : Nat) = u ∧ k + m = 1 ∧ acc.length ≤ 400000 * k ∧ IsB W0.heap.size W0.heap.size acc wr ∧ Below W0.heap.size W0 wr)
      case atStart => exact ⟨0, [], rfl, rfl, by simp, hb0, (Below.refl _ _).alloc (Nat.le_refl _) _⟩
      case round =>
        obtain ⟨k, acc, rfl, hkm2, hacc, hbi, hb2⟩ := hrel
        have hsz2 := hb2.size
        have hbw2 : Below w.heap.size w _ := hbel.trans ⟨hb2.os, hb2.tape, hb2.output, hb2.size, fun q hq => hb2.block q (Nat.lt_of_lt_of_le hq hbel.size)⟩
        by_cases hk1 : k = 1
        · subst hk1
          go_wp2_with (go_at_call 42; refine (Tryz.Builder_String_any _ _ _ _ hbi hsz2).mono ?_; rintro e w' ⟨rfl, hb3⟩)
          go_ret2
          exact ⟨hbw2.trans ⟨hb3.os, hb3.tape, hb3.output, hb3.size, fun q hq => hb3.block q (Nat.lt_of_lt_of_le hq hbel.size)⟩, _, 0, rfl, fun _ => .inl rfl, by simp [htk]⟩
        · obtain rfl : k = 0 := by omega
          obtain rfl : acc = [] := List.eq_nil_of_length_eq_zero (by omega)
          have hB2 : wr.heap[g]? = _ := (hb2.block g hglt2).trans hB
          have c0 : wr.cell? ⟨g, 0, none⟩ = some (.int .u8 t.kind) := by simp [World.cell?, hB2]
          have c1 : wr.cell? ⟨g, 1, none⟩ = some (.int .i64 t.pos) := by simp [World.cell?, hB2]
          have c2 : wr.cell? ⟨g, 2, none⟩ = some (.string ⟨t.text.toArray⟩) := by simp [World.cell?, hB2]
          have c3 : wr.cell? ⟨g, 3, none⟩ = some (.float .f64 t.num) := by simp [World.cell?, hB2]
          obtain rfl : gk = 1 := by omega
          have hsz3 := hbw2.size
          have hg2 := hg.below hbw2
          by_cases k3 : t.kind = 3
          · have hgz : geZ t.num = true ∧ mayN t.num = true := by
              unfold tokOk at htk
              rw [if_pos k3] at htk
              simp at htk
              exact ⟨htk.1.2, htk.2⟩
            have hnt := fun o => numText_calls t.num hgz.2 (geZ_self hgz.1) (wr.alloc o) (hg2.below ((Below.refl _ _).alloc (Nat.le_refl _) o)).t
            have HN := hidden hnt
            clear hnt hgz h12 htk
            go_wp2_with (first | (go_at_call 39; refine (HN.out _).mono ?_; rintro e w5 ⟨tx, rfl, htx, hb5⟩; have hbi5 := hbi.keep (((Below.refl _ _).alloc (Nat.le_refl _) _).trans ⟨hb5.os, hb5.tape, hb5.output, hb5.size, fun q hq => hb5.block q (by simp; omega)⟩); have hszX : W0.heap.size ≤ w5.heap.size := (by have := hb5.size; simp at this; omega); have hb5w := below_step hbw2 hb5; have hb5r := below_step hb2 hb5) | (go_at_call 38; refine (writeString_calls _ _ [] tx _ hbi5 (by simp) (by omega) hszX).mono ?_; rintro e w6 ⟨rfl, hbi6, hb6⟩) | (go_at_call 41; refine (Tryz.Builder_Len _ _ _ _ hbi6).mono ?_; rintro e w' ⟨rfl, rfl⟩; rw [byteCells_length]))
            all_goals first
              | (go_ret2
                 exact ⟨hb5w.trans ⟨hb6.os, hb6.tape, hb6.output, hb6.size, fun q hq => hb6.block q (Nat.lt_of_lt_of_le hq hbel.size)⟩, ⟨#[]⟩, 3, rfl, fun _ => .inr rfl, by simp [htk0.out]⟩)
              | (go_roundg 0
                 case measure => omega
                 case rel => exact ⟨1, _, rfl, rfl, by simp; omega, hbi6, hb5r.trans hb6⟩)
          · by_cases k4 : t.kind = 4
            · have hq := fun o => quote_calls t.text hl (wr.alloc o)
              have HN := hidden hq
              clear hq h12 htk
              go_wp2_with (first | (go_at_call 40; refine (HN.out _).mono ?_; rintro e w5 ⟨tx, rfl, htx, hb5⟩; have hbi5 := hbi.keep (((Below.refl _ _).alloc (Nat.le_refl _) _).trans ⟨hb5.os, hb5.tape, hb5.output, hb5.size, fun q hq => hb5.block q (by simp; omega)⟩); have hszX : W0.heap.size ≤ w5.heap.size := (by have := hb5.size; simp at this; omega); have hb5w := below_step hbw2 hb5; have hb5r := below_step hb2 hb5) | (go_at_call 38; refine (writeString_calls _ _ [] tx _ hbi5 (by simp) (by omega) hszX).mono ?_; rintro e w6 ⟨rfl, hbi6, hb6⟩) | (go_at_call 41; refine (Tryz.Builder_Len _ _ _ _ hbi6).mono ?_; rintro e w' ⟨rfl, rfl⟩; rw [byteCells_length]))
              all_goals first
                | (go_ret2
                   exact ⟨hb5w.trans ⟨hb6.os, hb6.tape, hb6.output, hb6.size, fun q hq => hb6.block q (Nat.lt_of_lt_of_le hq hbel.size)⟩, ⟨#[]⟩, 3, rfl, fun _ => .inr rfl, by simp [htk0.out]⟩)
                | (go_roundg 0
                   case measure => omega
                   case rel => exact ⟨1, _, rfl, rfl, by simp; omega, hbi6, hb5r.trans hb6⟩)
            · have q3 : ((t.kind : Int) == 3) = false := by simp; omega
              have q4 : ((t.kind : Int) == 4) = false := by simp; omega
              clear h12 htk
              have hbi5 := fun o => hbi.keep ((Below.refl wr.heap.size wr).alloc (Nat.le_refl _) o)
              have hb5w := fun o => hbw2.alloc hsz3 o
              have hb5r := fun o => hb2.alloc hsz2 o
              go_wp2_with (first | (go_at_call 38; refine (writeString_calls _ _ [] t.text _ (hbi5 _) (by simp) (by omega) (by simp; omega)).mono ?_; rintro e w6 ⟨rfl, hbi6, hb6⟩) | (go_at_call 41; refine (Tryz.Builder_Len _ _ _ _ hbi6).mono ?_; rintro e w' ⟨rfl, rfl⟩; rw [byteCells_length]))
              all_goals first
                | (go_ret2
                   exact ⟨(hb5w _).trans ⟨hb6.os, hb6.tape, hb6.output, hb6.size, fun q hq => hb6.block q (Nat.lt_of_lt_of_le hq hbel.size)⟩, ⟨#[]⟩, 3, rfl, fun _ => .inr rfl, by simp [htk0.out]⟩)
                | (go_roundg 0
                   case measure => omega
                   case rel => exact ⟨1, _, rfl, rfl, by simp; omega, hbi6, (hb5r _).trans hb6⟩)

end Go.Proofs.YtgdamcmfdhhheaaGreatDoor

/- parse.may, walked. -/
namespace Go.Proofs.YtgdamcmfdhhheaaGreatDoor
open Go.RowKit Bf

structure TokMem (w : World) (bl : Nat) (toks : List Tok) : Prop where
  lt : bl < w.heap.size
  cell : ∀ i t, toks[i]? = some t → ∀ j v, (tokVals t)[j]? = some v → w.cell? ⟨bl, i * 4 + j, none⟩ = some v

theorem TokMem.below {w w' : World} {bl : Nat} {toks : List Tok} (h : TokMem w bl toks) (hb : Below w.heap.size w w') : TokMem w' bl toks :=
  ⟨Nat.lt_of_lt_of_le h.lt hb.size, fun i t ht j v hv => (World.cell?_of_block (a := ⟨bl, i * 4 + j, none⟩) (hb.block bl h.lt)).trans (h.cell i t ht j v hv)⟩

/-- What may asks of tokens. -/
structure TokFit (toks : List Tok) : Prop where
  pos : 1 ≤ toks.length
  len : toks.length ≤ 16385
  last : ∃ p, toks[toks.length - 1]? = some ⟨0, p, [], 0⟩
  kind : ∀ t ∈ toks, t.kind < 256 ∧ t.text.length ≤ 65536 ∧ (t.kind = 1 ∨ t.kind = 2 → tokOk t = true)

def mayE (toks : List Tok) : Nat := if toks.dropLast.all tokOk then 0 else 5

set_option maxRecDepth 100000 in
set_option maxHeartbeats 8000000 in
theorem parseMay_calls (bl cap : Nat) (toks : List Tok) (hf : TokFit toks) (w : World) (hg : Ground2 w) (hm : TokMem w bl toks) :
    Calls Tryz.prog 30 #[.slice (some ⟨bl, 0, none⟩) toks.length cap] w fun e w' => Below w.heap.size w w' ∧ e = .returned (.int .i64 (mayE toks : Nat)) := by
  obtain ⟨p, hlast⟩ := hf.last
  have hpos := hf.pos
  have hlen := hf.len
  have hbl := hm.lt
  have e0 := fun v h => hm.cell _ _ hlast 0 v h
  have d0 : w.cell? ⟨bl, (toks.length - 1) * 4, none⟩ = some (.int .u8 0) := hm.cell _ _ hlast 0 _ rfl
  have d1 : w.cell? ⟨bl, (toks.length - 1) * 4 + 1, none⟩ = some (.int .i64 p) := hm.cell _ _ hlast 1 _ rfl
  have d2 : w.cell? ⟨bl, (toks.length - 1) * 4 + 2, none⟩ = some (.string ⟨#[]⟩) := hm.cell _ _ hlast 2 _ rfl
  have d3 : w.cell? ⟨bl, (toks.length - 1) * 4 + 3, none⟩ = some (.float .f64 0) := hm.cell _ _ hlast 3 _ rfl
  clear e0
  obtain ⟨k, hk⟩ : ∃ k, toks.length = k + 1 := ⟨toks.length - 1, by omega⟩
  rw [hk] at d0 d1 d2 d3 ⊢
  simp only [Nat.add_sub_cancel] at d0 d1 d2 d3
  generalize hres : mayE toks = res
  have q1 : ((16385 : Int) < (k : Int) + 1) = False := by simp; omega
  have q2 : (((k : Int) + 1) == 0) = false := by simp; omega
  go_enter Tryz.func30, Tryz.ntmps30
  go_wp2_with fail
  clear d0 d1 d2 d3 q1 q2
  have hE := heap_alloc_new w (.cells #[.int .u8 0, .int .i64 (p : Nat), .string ⟨#[]⟩, .float .f64 0] 59)
  have hEb : Below w.heap.size w (w.alloc (.cells #[.int .u8 0, .int .i64 (p : Nat), .string ⟨#[]⟩, .float .f64 0] 59)) := (Below.refl _ _).alloc (Nat.le_refl _) _
  go_loopg [33] (k + 1) (fun m u wr => ∃ i : Nat, .int .i64 (i : Nat) = u ∧ i + m = k + 1 ∧ Below w.heap.size w wr ∧ wr.heap[w.heap.size]? = some (.cells #[.int .u8 0, .int .i64 (p : Nat), .string ⟨#[]⟩, .float .f64 0] 59 (0, 0)) ∧ (∀ j, j < i → j < k → ∀ t, toks[j]? = some t → tokOk t = true))
  case atStart => exact ⟨0, rfl, by omega, hEb, hE, fun j hj => by omega⟩
  case round =>
    clear hE hEb
    obtain ⟨i, rfl, him, hbel, hE, hok⟩ := hrel
    have hmr := hm.below hbel
    have hgr := hg.below hbel
    by_cases hik : i < k + 1
    case neg =>
      have hl : ((i : Int) < (k : Int) + 1) = False := by simp; omega
      have hall : mayE toks = 0 := by
        unfold mayE
        rw [if_pos]
        rw [List.all_eq_true]
        intro t ht
        obtain ⟨j, hj, rfl⟩ := List.getElem_of_mem ht
        have hj' : j < k := by simp at hj; omega
        refine hok j (by omega) hj' _ ?_
        rw [List.getElem_dropLast, List.getElem?_eq_getElem]
      rw [hall] at hres
      subst hres
      clear hall hok
      go_wp2_with fail
      go_ret
      exact ⟨hbel, rfl⟩
    case pos =>
      have hl : ((i : Int) < (k : Int) + 1) = True := by simp; omega
      obtain ⟨m, rfl⟩ : ∃ m, gk = m + 1 := ⟨gk - 1, by omega⟩
      obtain ⟨t, ht⟩ : ∃ t, toks[i]? = some t := ⟨toks[i]'(by omega), List.getElem?_eq_getElem (by omega)⟩
      have c0 : wr.cell? ⟨bl, i * 4, none⟩ = some (.int .u8 t.kind) := hmr.cell _ _ ht 0 _ rfl
      have c1 : wr.cell? ⟨bl, i * 4 + 1, none⟩ = some (.int .i64 t.pos) := hmr.cell _ _ ht 1 _ rfl
      have c2 : wr.cell? ⟨bl, i * 4 + 2, none⟩ = some (.string ⟨t.text.toArray⟩) := hmr.cell _ _ ht 2 _ rfl
      have c3 : wr.cell? ⟨bl, i * 4 + 3, none⟩ = some (.float .f64 t.num) := hmr.cell _ _ ht 3 _ rfl
      have hblr := hmr.lt
      have hElt : w.heap.size < wr.heap.size := (Array.getElem?_eq_some_iff.1 hE).1
      by_cases hi : i = k
      · subst hi
        have het : t = ⟨0, p, [], 0⟩ := by
          rw [hk, Nat.add_sub_cancel, ht] at hlast
          cases hlast
          rfl
        subst het
        have hE0 : wr.cell? ⟨w.heap.size, 0, none⟩ = some (.int .u8 0) := by simp [World.cell?, hE]
        have hE1 : wr.cell? ⟨w.heap.size, 1, none⟩ = some (.int .i64 (p : Nat)) := by simp [World.cell?, hE]
        have hE2 : wr.cell? ⟨w.heap.size, 2, none⟩ = some (.string ⟨#[]⟩) := by simp [World.cell?, hE]
        have hE3 : wr.cell? ⟨w.heap.size, 3, none⟩ = some (.float .f64 0) := by simp [World.cell?, hE]
        have hend : ∀ o1 o2, Calls Tryz.prog 25 #[.slice (some ⟨wr.heap.size + 2, 0, none⟩) 1 1] (((wr.alloc o1).alloc o2).alloc (.cells #[.int .u8 0, .int .i64 (p : Nat), .string ⟨#[]⟩, .float .f64 0] 59)) fun e w' => Below (((wr.alloc o1).alloc o2).alloc (.cells #[.int .u8 0, .int .i64 (p : Nat), .string ⟨#[]⟩, .float .f64 0] 59)).heap.size (((wr.alloc o1).alloc o2).alloc (.cells #[.int .u8 0, .int .i64 (p : Nat), .string ⟨#[]⟩, .float .f64 0] 59)) w' ∧ e = .returned (.tuple #[.string ⟨#[]⟩, .int .i64 0]) := fun o1 o2 => by
          refine lexText_end (wr.heap.size + 2) p _ ?_
          have := heap_alloc_new ((wr.alloc o1).alloc o2) (.cells #[.int .u8 0, .int .i64 (p : Nat), .string ⟨#[]⟩, .float .f64 0] 59)
          rw [show ((wr.alloc o1).alloc o2).heap.size = wr.heap.size + 2 from by simp] at this
          exact this
        have HO := hidden hend
        clear hend
        have hb2 : ∀ o1 o2 o3 w5, Below (((wr.alloc o1).alloc o2).alloc o3).heap.size (((wr.alloc o1).alloc o2).alloc o3) w5 → Below wr.heap.size wr w5 := fun o1 o2 o3 w5 hb5 =>
          ((((Below.refl wr.heap.size wr).alloc (Nat.le_refl _) o1).alloc (by simp) o2).alloc (by simp; omega) o3).trans ⟨hb5.os, hb5.tape, hb5.output, hb5.size, fun q hq => hb5.block q (by simp; omega)⟩
        go_wp2_with (go_at_call 25; refine (HO.out _ _).mono ?_; rintro e w5 ⟨hb5, rfl⟩)
        have hbs := hb2 _ _ _ _ hb5
        go_roundg m
        case measure => omega
        case rel => exact ⟨i + 1, rfl, by omega, hbel.trans ⟨hbs.os, hbs.tape, hbs.output, hbs.size, fun q hq => hbs.block q (by omega)⟩, (hbs.block _ hElt).trans hE, fun j hj hjk t' ht' => hok j (by omega) hjk t' ht'⟩
      · have hne : ((i : Int) == (k : Int)) = false := by simp; omega
        have hft := hf.kind t (List.mem_of_getElem? ht)
        have hone : ∀ o, Calls Tryz.prog 25 #[.slice (some ⟨wr.heap.size + 1, 0, none⟩) 2 2] ((wr.alloc o).alloc (.cells #[.int .u8 t.kind, .int .i64 t.pos, .string ⟨t.text.toArray⟩, .float .f64 t.num, .int .u8 0, .int .i64 0, .string ⟨#[]⟩, .float .f64 0] 59)) (PostLT ((wr.alloc o).alloc (.cells #[.int .u8 t.kind, .int .i64 t.pos, .string ⟨t.text.toArray⟩, .float .f64 t.num, .int .u8 0, .int .i64 0, .string ⟨#[]⟩, .float .f64 0] 59)) t) := fun o => by
          refine lexText_one (wr.heap.size + 1) t 0 hft.1 hft.2.1 hft.2.2 _ (hgr.below (((Below.refl _ _).alloc (Nat.le_refl _) _).alloc (by simp) _)) ?_
          have := heap_alloc_new (wr.alloc o) (.cells #[.int .u8 t.kind, .int .i64 t.pos, .string ⟨t.text.toArray⟩, .float .f64 t.num, .int .u8 0, .int .i64 ((0 : Nat) : Int), .string ⟨#[]⟩, .float .f64 0] 59)
          rw [show (wr.alloc o).heap.size = wr.heap.size + 1 from by simp] at this
          exact this
        have HO := hidden hone
        clear hone
        have hb2 : ∀ o1 o2 w5, Below ((wr.alloc o1).alloc o2).heap.size ((wr.alloc o1).alloc o2) w5 → Below wr.heap.size wr w5 := fun o1 o2 w5 hb5 =>
          (((Below.refl wr.heap.size wr).alloc (Nat.le_refl _) o1).alloc (by simp) o2).trans ⟨hb5.os, hb5.tape, hb5.output, hb5.size, fun q hq => hb5.block q (by simp; omega)⟩
        cases htk : tokOk t
        · have hno : mayE toks = 5 := by
            unfold mayE
            rw [if_neg]
            intro hall
            have : t ∈ toks.dropLast := by
              rw [List.mem_iff_getElem?]
              refine ⟨i, ?_⟩
              rw [List.getElem?_dropLast, if_pos (by omega)]
              exact ht
            have := List.all_eq_true.1 hall t this
            rw [htk] at this
            cases this
          rw [hno] at hres
          subst hres
          clear hno hok
          go_wp2_with (go_at_call 25; refine (HO.out _).mono ?_; rintro e w5 ⟨hb5, s5, n5, rfl, hn1, hn2⟩; obtain rfl := hn2 htk)
          go_ret
          exact ⟨hbel.trans ⟨(hb2 _ _ _ hb5).os, (hb2 _ _ _ hb5).tape, (hb2 _ _ _ hb5).output, (hb2 _ _ _ hb5).size, fun q hq => (hb2 _ _ _ hb5).block q (by omega)⟩, rfl⟩
        · go_wp2_with (go_at_call 25; refine (HO.out _).mono ?_; rintro e w5 ⟨hb5, s5, n5, rfl, hn1, hn2⟩)
          all_goals have h03 := hn1 htk
          all_goals have hbs := hb2 _ _ _ hb5
          all_goals first
            | (go_roundg m
               case measure => omega
               case rel =>
                 refine ⟨i + 1, rfl, by omega, hbel.trans ⟨hbs.os, hbs.tape, hbs.output, hbs.size, fun q hq => hbs.block q (by omega)⟩, (hbs.block _ hElt).trans hE, fun j hj hjk t' ht' => ?_⟩
                 by_cases hji : j < i
                 · exact hok j hji hjk t' ht'
                 · obtain rfl : j = i := by omega
                   rw [ht] at ht'
                   cases ht'
                   exact htk)
            | (exfalso
               rcases h03 with rfl | rfl <;> simp_all)

end Go.Proofs.YtgdamcmfdhhheaaGreatDoor

/- The tokens of a text are fit. -/
namespace Go.Proofs.YtgdamcmfdhhheaaGreatDoor
open Go.RowKit Bf

theorem eqZ0 : eqZ 0 = true := by decide

theorem tw_tw (l : List UInt8) : (l.takeWhile isNm).takeWhile isNm = l.takeWhile isNm := by
  induction l with
  | nil => rfl
  | cons b l ih =>
    cases h : isNm b
    · simp [List.takeWhile_cons, h]
    · simp only [List.takeWhile_cons, h, if_true]
      rw [ih]

theorem nameLen_take (s : List UInt8) : nameLen (s.take (nameLen s)) = nameLen s := by
  unfold nameLen
  rw [show s.take (s.takeWhile isNm).length = s.takeWhile isNm from by
    conv => lhs; rw [← List.takeWhile_append_dropWhile (p := isNm) (l := s)]
    rw [List.take_append_of_le_length (by rw [List.takeWhile_append_dropWhile]; exact Nat.le_refl _)]
    rw [List.takeWhile_append_dropWhile]
    exact List.take_length]
  rw [tw_tw]

def FitT (t : Tok) : Prop := t.kind < 256 ∧ t.text.length ≤ 65536 ∧ (t.kind = 1 ∨ t.kind = 2 → tokOk t = true)

theorem FitT.at_ {t : Tok} (h : FitT t) (p : Nat) : FitT { t with pos := p } := h

theorem tokN_fit {s : List UInt8} (h1 : 1 ≤ s.length) (h2 : s.length ≤ 65536) {t : Tok} {n : Nat} (h : tokN s = .ok (t, n)) : FitT t := by
  unfold tokN at h
  by_cases hk : bKind (s.headD 0) = 1
  · rw [if_pos hk] at h
    split at h
    · cases h
    · rename_i h4
      cases h
      have hp := nameLen_pos h1 (.inl hk)
      have hle := nameLen_le s
      have hlen : (s.take (nameLen s)).length = nameLen s := by simp; omega
      refine ⟨?_, by simp; omega, fun _ => ?_⟩
      · simp only; split <;> omega
      · have hne : (s.take (nameLen s) != []) = true := by
          simp only [bne_iff_ne, ne_eq]
          intro e
          rw [e] at hlen
          simp at hlen
          omega
        have hhd : (s.take (nameLen s)).headD 0 = s.headD 0 := by
          cases s with
          | nil => simp at h1
          | cons b t =>
            obtain ⟨q, hq⟩ : ∃ q, nameLen (b :: t) = q + 1 := ⟨nameLen (b :: t) - 1, by omega⟩
            rw [hq]
            rfl
        have e : ∀ k, k = 1 ∨ k = 2 → tokOk ⟨k, 0, s.take (nameLen s), 0⟩ = (eqZ 0 && s.take (nameLen s) != [] && decide ((s.take (nameLen s)).length ≤ 4096) && bKind ((s.take (nameLen s)).headD 0) == 1 && nameLen (s.take (nameLen s)) == (s.take (nameLen s)).length && (word (s.take (nameLen s)) == (k == 2))) := by
          intro k hk
          rcases hk with rfl | rfl <;> rfl
        have hd4 : decide ((s.take (nameLen s)).length ≤ 4096) = true := by simp; omega
        cases hw : word (s.take (nameLen s))
        · simp only [Bool.false_eq_true, if_false]
          rw [e 1 (.inl rfl), eqZ0, hne, hd4, hhd, hk, nameLen_take, hlen, hw]
          simp
        · simp only [if_true]
          rw [e 2 (.inr rfl), eqZ0, hne, hd4, hhd, hk, nameLen_take, hlen, hw]
          simp
  rw [if_neg hk] at h
  by_cases hk2 : bKind (s.headD 0) = 2
  · rw [if_pos hk2] at h
    repeat' split at h
    all_goals first
      | (cases h; done)
      | (cases h; exact ⟨by simp, by simp, fun e => by rcases e with e | e <;> cases e⟩)
  rw [if_neg hk2] at h
  by_cases hk3 : bKind (s.headD 0) = 3
  · rw [if_pos hk3] at h
    repeat' split at h
    all_goals first
      | (cases h; done)
      | (cases h; exact ⟨by simp, by simp only; omega, fun e => by rcases e with e | e <;> cases e⟩)
  rw [if_neg hk3] at h
  split at h
  · cases h
  · cases h
    exact ⟨by simp, by simp; omega, fun e => by rcases e with e | e <;> cases e⟩

theorem lxN_fit {s : List UInt8} (h1 : 1 ≤ s.length) (h2 : s.length ≤ 65536) {t : Tok} {n : Nat} (h : lxN s = .tok t n) : FitT t := by
  unfold lxN at h
  repeat' split at h
  all_goals first
    | (cases h; done)
    | (cases h; rename_i e; exact tokN_fit h1 h2 e)

theorem lexFrom_fit : ∀ (f : Nat) (s : List UInt8) (i : Nat) (acc l : List Tok), s.length ≤ 65536 → acc.length ≤ 16384 → (∀ t ∈ acc, FitT t) → lexFrom f s i acc = .ok l → l.length ≤ 16384 ∧ ∀ t ∈ l, FitT t := by
  intro f
  induction f with
  | zero => intro s i acc l _ ha hacc h; cases h; exact ⟨ha, hacc⟩
  | succ f ih =>
    intro s i acc l hs ha hacc h
    cases s with
    | nil => cases h; exact ⟨ha, hacc⟩
    | cons b s =>
      simp only [lexFrom] at h
      cases hl : lxN (b :: s) with
      | skip n =>
        rw [hl] at h
        exact ih _ _ _ _ (by simp at hs ⊢; omega) ha hacc h
      | bad n => rw [hl] at h; cases h
      | tok t n =>
        rw [hl] at h
        simp only at h
        split at h
        · cases h
        · refine ih _ _ _ _ (by simp at hs ⊢; omega) (by simp; omega) (fun t' ht' => ?_) h
          rcases List.mem_append.1 ht' with h' | h'
          · exact hacc t' h'
          · rw [List.mem_singleton] at h'
            subst h'
            exact (lxN_fit (by simp) hs hl).at_ i

theorem tokens_fit {s : List UInt8} (hs : s.length ≤ 65536) {l : List Tok} (h : tokens s = .ok l) : TokFit l := by
  unfold tokens at h
  cases hl : lexFrom s.length s 0 [] with
  | error e => rw [hl] at h; cases h
  | ok l0 =>
    rw [hl] at h
    cases h
    obtain ⟨h1, h2⟩ := lexFrom_fit _ _ _ _ _ hs (by simp) (by simp) hl
    refine ⟨by simp, by simp; omega, ⟨s.length, by simp⟩, fun t ht => ?_⟩
    rcases List.mem_append.1 ht with h' | h'
    · exact h2 t h'
    · rw [List.mem_singleton] at h'
      subst h'
      exact ⟨by simp, by simp, fun e => by rcases e with e | e <;> cases e⟩

end Go.Proofs.YtgdamcmfdhhheaaGreatDoor
