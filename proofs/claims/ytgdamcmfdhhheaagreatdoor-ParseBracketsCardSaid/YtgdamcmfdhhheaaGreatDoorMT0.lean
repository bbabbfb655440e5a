/- parse.Same, walked. -/
import Derived.Test.YtgdamcmfdhhheaaGreatDoorMA2
import Derived.Test.YtgdamcmfdhhheaaGreatDoorShelf
import Derived.Deep.LoopGhost
set_option linter.all false

namespace Go.Proofs.YtgdamcmfdhhheaaGreatDoor
open Go.RowKit Bf

/-- A node that can be read: its kids are any numbers. -/
structure NodeI where
  kind : Nat
  pos : Int
  text : List UInt8
  num : Nat
  kids : List Int

def NodeI.vals (n : NodeI) (kv : Value) : List Value := [.int .u8 n.kind, .int .i64 n.pos, .string ⟨n.text.toArray⟩, .float .f64 n.num, kv]

def toI (n : NodeA) : NodeI := ⟨n.kind, n.pos, n.text, n.num, n.kids.map fun (k : Nat) => (k : Int)⟩

def KidsSee (w : World) (v : Value) (ks : List Int) : Prop :=
  (ks = [] ∧ ∃ a c, v = .slice a 0 c) ∨
    ∃ b o c : Nat, v = .slice (some ⟨b, o, none⟩) ks.length c ∧ ks.length ≤ 9223372036854775807 ∧ ∀ j, j < ks.length → w.cell? ⟨b, o + j, none⟩ = some (.int .i64 (ks.getD j 0))

theorem KidsSee.form {w : World} {v : Value} {ks : List Int} (h : KidsSee w v ks) : ∃ a c, v = .slice a ks.length c := by
  rcases h with ⟨rfl, a, c, rfl⟩ | ⟨b, o, c, rfl, _⟩
  · exact ⟨a, c, rfl⟩
  · exact ⟨_, c, rfl⟩

/-- A row of nodes that can be read. -/
def NodesSee (w : World) (v : Value) (ns : List NodeI) : Prop :=
  (ns = [] ∧ ∃ a c, v = .slice a 0 c) ∨
    ∃ (b o c : Nat) (kvs : List Value), v = .slice (some ⟨b, o, none⟩) ns.length c ∧ ns.length ≤ 9223372036854775807 ∧ kvs.length = ns.length ∧
      ∀ (i : Nat) (n : NodeI) (kv : Value), ns[i]? = some n → kvs[i]? = some kv →
        (∀ j u, (n.vals kv)[j]? = some u → w.cell? ⟨b, o + (i * 5 + j), none⟩ = some u) ∧ KidsSee w kv n.kids

def feq (x y : Nat) : Bool := FloatKind.f64.format.order x y == some .eq

def sameI (x y : NodeI) : Bool := x.kind == y.kind && (x.text == y.text && ((feq x.num y.num || (!feq x.num x.num && !feq y.num y.num)) && x.kids == y.kids))

theorem cell_lt {w : World} {a : Addr} {v : Value} (h : w.cell? a = some v) : a.block < w.heap.size := by
  rcases Nat.lt_or_ge a.block w.heap.size with h' | h'
  · exact h'
  · simp [World.cell?, Array.getElem?_eq_none h'] at h

theorem cell_below {w w' : World} (hb : Below w.heap.size w w') {a : Addr} {v : Value} (h : w.cell? a = some v) : w'.cell? a = some v := by
  have hlt : a.block < w.heap.size := by
    rcases Nat.lt_or_ge a.block w.heap.size with h' | h'
    · exact h'
    · simp [World.cell?, Array.getElem?_eq_none h'] at h
  exact (hb.cell hlt).trans h

theorem KidsSee.below {w w' : World} {v : Value} {ks : List Int} (h : KidsSee w v ks) (hb : Below w.heap.size w w') : KidsSee w' v ks := by
  rcases h with h | ⟨b, o, c, h1, h2, h3⟩
  · exact .inl h
  · exact .inr ⟨b, o, c, h1, h2, fun j hj => cell_below hb (h3 j hj)⟩

set_option maxRecDepth 100000 in
set_option maxHeartbeats 2000000 in
theorem equal_calls (v u : Value) (xs ys : List Int) (w : World) (hx : KidsSee w v xs) (hy : KidsSee w u ys) :
    Calls Tryz.prog 23 #[v, u] w fun e w' => e = .returned (.bool (xs == ys)) ∧ Below w.heap.size w w' := by
  rcases hx with ⟨rfl, a, c, rfl⟩ | ⟨b, o, c, rfl, hn, hc⟩
  · have hu : ∃ a2 d, u = .slice a2 ys.length d ∧ ys.length ≤ 9223372036854775807 := by
      rcases hy with ⟨rfl, a, c, rfl⟩ | ⟨b, o, c, rfl, hn, hc⟩
      · exact ⟨a, c, rfl, by simp⟩
      · exact ⟨_, c, rfl, hn⟩
    obtain ⟨a2, d, rfl, hl⟩ := hu
    refine (Tryz.slices_Equal_int_empty a a2 c ys.length d w hl).mono ?_
    rintro e w' ⟨rfl, rfl⟩
    exact ⟨by cases ys <;> simp, Below.refl _ _⟩
  · rcases hy with ⟨rfl, a, c', rfl⟩ | ⟨b', o', c', rfl, hn', hc'⟩
    · by_cases hz : xs.length = 0
      · obtain rfl := List.eq_nil_of_length_eq_zero hz
        refine (Tryz.slices_Equal_int_empty _ a c 0 c' w (by omega)).mono ?_
        rintro e w' ⟨rfl, rfl⟩
        exact ⟨rfl, Below.refl _ _⟩
      · refine (Tryz.slices_Equal_int_lens _ a xs.length c 0 c' w hz).mono ?_
        rintro e w' ⟨rfl, rfl⟩
        refine ⟨?_, Below.refl _ _⟩
        cases xs <;> simp at hz ⊢
    · refine (Tryz.slices_Equal_int b o xs.length c b' o' ys.length c' xs ys w (Nat.le_refl _) (Nat.le_refl _) hn hn' hc hc').mono ?_
      rintro e w' ⟨rfl, q, rfl⟩
      rw [List.take_length, List.take_length]
      exact ⟨rfl, rfl, rfl, rfl, Nat.le_refl _, fun _ _ => rfl⟩

set_option maxRecDepth 100000 in
set_option maxHeartbeats 2000000 in
theorem nodeSame_calls (x y : NodeI) (v u : Value) (w : World) (hx : KidsSee w v x.kids) (hy : KidsSee w u y.kids) :
    Calls Tryz.prog 22 #[.agg (x.vals v).toArray, .agg (y.vals u).toArray] w fun e w' => e = .returned (.bool (sameI x y)) ∧ Below w.heap.size w w' := by
  have HE := hidden (show ∀ w', Below w.heap.size w w' → Calls Tryz.prog 23 #[v, u] w' fun e w'' => e = .returned (.bool (x.kids == y.kids)) ∧ Below w'.heap.size w' w'' from
    fun w' hb => equal_calls v u x.kids y.kids w' (hx.below hb) (hy.below hb))
  clear hx hy
  unfold sameI feq
  generalize hkk : (x.kids == y.kids) = kk at HE ⊢
  obtain ⟨k1, p1, t1, n1, ks1⟩ := x
  obtain ⟨k2, p2, t2, n2, ks2⟩ := y
  simp only [NodeI.vals]
  generalize hf1 : FloatKind.f64.format.order n1 n2 = f1
  generalize hf2 : FloatKind.f64.format.order n1 n1 = f2
  generalize hf3 : FloatKind.f64.format.order n2 n2 = f3
  have hk' : (((k1 : Int) == (k2 : Int)) = (k1 == k2)) := by
    by_cases e : k1 = k2
    · subst e; simp
    · rw [beq_eq_false_iff_ne.2 e, beq_eq_false_iff_ne]; omega
  rcases Decidable.em (k1 = k2) with rfl | hk
  rotate_left
  · have hk1 : ((k1 : Int) = (k2 : Int)) = False := by simp; omega
    have hk2 : (k1 == k2) = false := by simpa using hk
    clear hk hk'
    rw [hk2]
    go_enter Tryz.func22, Tryz.ntmps22
    go_wp2_with fail
    go_ret
    exact ⟨by simp, ((Below.refl _ _).alloc (Nat.le_refl _) _).alloc (by simp) _⟩
  rcases Decidable.em (t1 = t2) with rfl | ht
  rotate_left
  · have ht1 : (t1 = t2) = False := by simp; exact ht
    have ht2 : (t1 == t2) = false := by simpa using ht
    clear ht hk'
    rw [ht2]
    go_enter Tryz.func22, Tryz.ntmps22
    go_wp2_with fail
    go_ret
    exact ⟨by simp, ((Below.refl _ _).alloc (Nat.le_refl _) _).alloc (by simp) _⟩
  clear hk'
  rw [beq_self_eq_true k1, beq_self_eq_true t1]
  simp only [Bool.true_and]
  go_enter Tryz.func22, Tryz.ntmps22
  have hb2 : Below w.heap.size w ((w.alloc (.cells #[.int .u8 k1, .int .i64 p1, .string ⟨t1.toArray⟩, .float .f64 n1, v] 32)).alloc (.cells #[.int .u8 k1, .int .i64 p2, .string ⟨t1.toArray⟩, .float .f64 n2, u] 32)) :=
    ((Below.refl _ _).alloc (Nat.le_refl _) _).alloc (by simp) _
  go_wp2_with fail
  all_goals first
    | (refine (HE.out _ hb2).mono ?_
       rintro e w' ⟨rfl, hb⟩
       have hb3 := hb2.trans (hb.mono hb2.size)
       go_wp2_with fail
       go_ret
       refine ⟨?_, hb3⟩
       simp [*]
       done)
    | (go_ret
       refine ⟨?_, hb2⟩
       simp [*]
       done)
    | (have g1 : (f1 == some Ordering.eq) = false := by simpa using (by assumption : ¬ f1 = some Ordering.eq)
       have g2 : (f2 == some Ordering.eq) = false := by simpa using (by assumption : ¬ f2 = some Ordering.eq)
       have g3 : (f3 == some Ordering.eq) = false := by simpa using (by assumption : ¬ f3 = some Ordering.eq)
       have g4 : (f2 != some Ordering.eq) = true := by simp [bne, g2]
       have g5 : (f3 != some Ordering.eq) = true := by simp [bne, g3]
       simp only [g1, g2, g3, g4, g5, Bool.false_or, Bool.true_and, Bool.and_true, Bool.not_false]
       refine (HE.out _ hb2).mono ?_
       rintro e w' ⟨rfl, hb⟩
       have hb3 := hb2.trans (hb.mono hb2.size)
       go_wp2_with fail
       all_goals go_ret
       all_goals exact ⟨by simp; exact fun _ => .inr ⟨by assumption, by assumption⟩, hb3⟩)

theorem NodesSee.below {w w' : World} {v : Value} {ns : List NodeI} (h : NodesSee w v ns) (hb : Below w.heap.size w w') : NodesSee w' v ns := by
  rcases h with h | ⟨b, o, c, kvs, h1, h2, h3, h4⟩
  · exact .inl h
  · exact .inr ⟨b, o, c, kvs, h1, h2, h3, fun i n kv hi hk => ⟨fun j u hj => cell_below hb ((h4 i n kv hi hk).1 j u hj), (h4 i n kv hi hk).2.below hb⟩⟩

def sameL : List NodeI → List NodeI → Bool
  | [], [] => true
  | x :: xs, y :: ys => sameI x y && sameL xs ys
  | _, _ => false

theorem sameL_len : ∀ {xs ys : List NodeI}, xs.length ≠ ys.length → sameL xs ys = false
  | [], [], h => absurd rfl h
  | [], _ :: _, _ => rfl
  | _ :: _, [], _ => rfl
  | x :: xs, y :: ys, h => by
    have : xs.length ≠ ys.length := fun e => h (by simp [e])
    simp [sameL, sameL_len this]

theorem sameL_drop {xs ys : List NodeI} {i : Nat} {x y : NodeI} (hx : xs[i]? = some x) (hy : ys[i]? = some y) : sameL (xs.drop i) (ys.drop i) = (sameI x y && sameL (xs.drop (i + 1)) (ys.drop (i + 1))) := by
  obtain ⟨h1, rfl⟩ := List.getElem?_eq_some_iff.1 hx
  obtain ⟨h2, rfl⟩ := List.getElem?_eq_some_iff.1 hy
  rw [List.drop_eq_getElem_cons h1, List.drop_eq_getElem_cons h2]
  rfl

set_option maxRecDepth 100000 in
set_option maxHeartbeats 4000000 in
theorem equalFunc_calls (v u : Value) (xs ys : List NodeI) (w : World) (hx : NodesSee w v xs) (hy : NodesSee w u ys) :
    Calls Tryz.prog 21 #[v, u, .func (.func 22) #[] #[]] w fun e w' => e = .returned (.bool (sameL xs ys)) ∧ Below w.heap.size w w' := by
  have hv : ∃ a c, v = .slice a xs.length c := by
    rcases hx with ⟨rfl, a, c, rfl⟩ | ⟨b, o, c, kvs, rfl, _⟩
    · exact ⟨a, c, rfl⟩
    · exact ⟨_, c, rfl⟩
  have hu : ∃ a c, u = .slice a ys.length c := by
    rcases hy with ⟨rfl, a, c, rfl⟩ | ⟨b, o, c, kvs, rfl, _⟩
    · exact ⟨a, c, rfl⟩
    · exact ⟨_, c, rfl⟩
  by_cases hlen : xs.length = ys.length
  case neg =>
    obtain ⟨a1, c1, rfl⟩ := hv
    obtain ⟨a2, c2, rfl⟩ := hu
    clear hx hy
    have hl : (((xs.length : Nat) : Int) != ((ys.length : Nat) : Int)) = true := by simp; omega
    rw [sameL_len hlen]
    clear hlen
    go_enter Tryz.func21, Tryz.ntmps21
    go_wp2_with fail
    go_ret
    exact ⟨rfl, Below.refl _ _⟩
  case pos =>
  by_cases h0 : xs.length = 0
  · obtain rfl := List.eq_nil_of_length_eq_zero h0
    obtain rfl := List.eq_nil_of_length_eq_zero (hlen.symm.trans h0)
    obtain ⟨a1, c1, rfl⟩ := hv
    obtain ⟨a2, c2, rfl⟩ := hu
    clear hx hy hlen h0
    simp only [List.length_nil]
    go_enter Tryz.func21, Tryz.ntmps21
    go_wp2_with fail
    go_loopg [17] 0 (fun m s wr => s = .int .i64 0 ∧ wr = w)
    case atStart => exact ⟨rfl, rfl⟩
    case round =>
      obtain ⟨rfl, rfl⟩ := hrel
      go_wp2_with fail
      go_ret
      exact ⟨rfl, Below.refl _ _⟩
  clear hv hu
  rcases hx with ⟨rfl, _⟩ | ⟨b1, o1, c1, k1, rfl, hn1, hk1, hx⟩
  · exact absurd rfl h0
  rcases hy with ⟨rfl, _⟩ | ⟨b2, o2, c2, k2, rfl, hn2, hk2, hy⟩
  · exact absurd hlen h0
  generalize hres : sameL xs ys = res
  have HX := hidden hx
  have HY := hidden hy
  clear hx hy
  generalize hL : xs.length = L at *
  have hL2 : ys.length = L := hlen.symm
  rw [hL2]
  clear hlen h0
  go_enter Tryz.func21, Tryz.ntmps21
  go_wp2_with fail
  go_loopg [17] L (fun m s wr => ∃ i : Nat, s = .int .i64 (i : Nat) ∧ i + m = L ∧ Below w.heap.size w wr ∧ sameL (xs.drop i) (ys.drop i) = res)
  case atStart => exact ⟨0, rfl, by omega, Below.refl _ _, hres⟩
  case round =>
    obtain ⟨i, rfl, him, hb, hr⟩ := hrel
    by_cases hi : i < L
    case neg =>
      have hl : ((i : Int) < (L : Int)) = False := by simp; omega
      rw [List.drop_eq_nil_of_le (by omega), List.drop_eq_nil_of_le (by omega)] at hr
      subst hr
      go_wp2_with fail
      go_ret
      exact ⟨rfl, hb⟩
    case pos =>
      have hl : ((i : Int) < (L : Int)) = True := by simp; omega
      obtain ⟨m, rfl⟩ : ∃ m, gk = m + 1 := ⟨gk - 1, by omega⟩
      obtain ⟨x, hxi⟩ : ∃ x, xs[i]? = some x := ⟨xs[i]'(by omega), List.getElem?_eq_getElem (by omega)⟩
      obtain ⟨y, hyi⟩ : ∃ y, ys[i]? = some y := ⟨ys[i]'(by omega), List.getElem?_eq_getElem (by omega)⟩
      obtain ⟨kv1, hk1i⟩ : ∃ y, k1[i]? = some y := ⟨k1[i]'(by omega), List.getElem?_eq_getElem (by omega)⟩
      obtain ⟨kv2, hk2i⟩ : ∃ y, k2[i]? = some y := ⟨k2[i]'(by omega), List.getElem?_eq_getElem (by omega)⟩
      have C1 := (HX.out i x kv1 hxi hk1i).1
      have C2 := (HY.out i y kv2 hyi hk2i).1
      have K1 := hidden ((HX.out i x kv1 hxi hk1i).2.below hb)
      have K2 := hidden ((HY.out i y kv2 hyi hk2i).2.below hb)
      obtain ⟨ka1, kc1, rfl⟩ := K1.out.form
      obtain ⟨ka2, kc2, rfl⟩ := K2.out.form
      have p0 : wr.cell? ⟨b1, o1 + i * 5, none⟩ = some (.int .u8 x.kind) := cell_below hb (C1 0 _ rfl)
      have p1 : wr.cell? ⟨b1, o1 + i * 5 + 1, none⟩ = some (.int .i64 x.pos) := cell_below hb (C1 1 _ rfl)
      have p2 : wr.cell? ⟨b1, o1 + i * 5 + 2, none⟩ = some (.string ⟨x.text.toArray⟩) := cell_below hb (C1 2 _ rfl)
      have p3 : wr.cell? ⟨b1, o1 + i * 5 + 3, none⟩ = some (.float .f64 x.num) := cell_below hb (C1 3 _ rfl)
      have p4 : wr.cell? ⟨b1, o1 + i * 5 + 4, none⟩ = some (.slice ka1 x.kids.length kc1) := cell_below hb (C1 4 _ rfl)
      have q0 : wr.cell? ⟨b2, o2 + i * 5, none⟩ = some (.int .u8 y.kind) := cell_below hb (C2 0 _ rfl)
      have q1 : wr.cell? ⟨b2, o2 + i * 5 + 1, none⟩ = some (.int .i64 y.pos) := cell_below hb (C2 1 _ rfl)
      have q2 : wr.cell? ⟨b2, o2 + i * 5 + 2, none⟩ = some (.string ⟨y.text.toArray⟩) := cell_below hb (C2 2 _ rfl)
      have q3 : wr.cell? ⟨b2, o2 + i * 5 + 3, none⟩ = some (.float .f64 y.num) := cell_below hb (C2 3 _ rfl)
      have q4 : wr.cell? ⟨b2, o2 + i * 5 + 4, none⟩ = some (.slice ka2 y.kids.length kc2) := cell_below hb (C2 4 _ rfl)
      have hlt1 : b1 < wr.heap.size := cell_lt p0
      have hlt2 : b2 < wr.heap.size := cell_lt q0
      rw [sameL_drop hxi hyi] at hr
      have HR := hidden hr
      have HS := hidden (show ∀ w', Below wr.heap.size wr w' → _ from fun w' hb' => nodeSame_calls x y _ _ w' (K1.out.below hb') (K2.out.below hb'))
      simp only [NodeI.vals] at HS
      clear C1 C2 hr hres
      go_wp2_with fail
      have hb3 : Below wr.heap.size wr ((wr.alloc (.cells #[.int .u8 x.kind, .int .i64 x.pos, .string ⟨x.text.toArray⟩, .float .f64 x.num, .slice ka1 x.kids.length kc1] 32)).alloc (.cells #[.int .u8 y.kind, .int .i64 y.pos, .string ⟨y.text.toArray⟩, .float .f64 y.num, .slice ka2 y.kids.length kc2] 32)) :=
        ((Below.refl _ _).alloc (Nat.le_refl _) _).alloc (by simp) _
      refine (HS.out _ hb3).mono ?_
      rintro e w5 ⟨rfl, hb5⟩
      have hb6 : Below w.heap.size w w5 := hb.trans ((hb3.trans (hb5.mono hb3.size)).mono hb.size)
      cases hs : sameI x y
      · obtain rfl := (show false = res by have := HR.out; rwa [hs] at this)
        go_wp2_with fail
        go_ret
        exact ⟨rfl, hb6⟩
      · have hr2 := (show sameL (xs.drop (i + 1)) (ys.drop (i + 1)) = res by have := HR.out; rwa [hs] at this)
        go_wp2_with fail
        go_roundg m
        case measure => omega
        case rel => exact ⟨i + 1, rfl, by omega, hb6, hr2⟩

set_option maxRecDepth 100000 in
set_option maxHeartbeats 4000000 in
theorem same_calls (v u : Value) (xs ys : List NodeI) (w : World) (hx : NodesSee w v xs) (hy : NodesSee w u ys) :
    Calls Tryz.prog 11 #[.agg #[v], .agg #[u]] w fun e w' => e = .returned (.bool (sameL xs ys)) ∧ Below w.heap.size w w' := by
  have HX := hidden hx
  have HY := hidden hy
  have hv : ∃ a c, v = .slice a xs.length c := by
    rcases hx with ⟨rfl, a, c, rfl⟩ | ⟨b, o, c, kvs, rfl, _⟩
    · exact ⟨a, c, rfl⟩
    · exact ⟨_, c, rfl⟩
  have hu : ∃ a c, u = .slice a ys.length c := by
    rcases hy with ⟨rfl, a, c, rfl⟩ | ⟨b, o, c, kvs, rfl, _⟩
    · exact ⟨a, c, rfl⟩
    · exact ⟨_, c, rfl⟩
  obtain ⟨a1, c1, rfl⟩ := hv
  obtain ⟨a2, c2, rfl⟩ := hu
  clear hx hy
  have hb3 : Below w.heap.size w ((w.alloc (.cells #[.slice a1 xs.length c1] 25)).alloc (.cells #[.slice a2 ys.length c2] 25)) :=
    ((Below.refl _ _).alloc (Nat.le_refl _) _).alloc (by simp) _
  have HC := hidden (show ∀ w', Below w.heap.size w w' → _ from fun w' hb' => equalFunc_calls _ _ xs ys w' (HX.out.below hb') (HY.out.below hb'))
  go_enter Tryz.func11, Tryz.ntmps11
  go_wp2_with fail
  refine (HC.out _ hb3).mono ?_
  rintro e w5 ⟨rfl, hb5⟩
  have hb6 := hb3.trans (hb5.mono hb3.size)
  go_wp2_with fail
  go_ret
  exact ⟨rfl, hb6⟩

end Go.Proofs.YtgdamcmfdhhheaaGreatDoor
