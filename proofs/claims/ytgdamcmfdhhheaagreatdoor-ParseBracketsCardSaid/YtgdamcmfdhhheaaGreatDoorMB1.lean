/- ( ) about a value change nothing in a tree but places: the plain law of ParseBrackets. -/
import Derived.Test.YtgdamcmfdhhheaaGreatDoorMN1
import Derived.Test.YtgdamcmfdhhheaaGreatDoorMB0
set_option linter.all false

namespace Go.Proofs.YtgdamcmfdhhheaaGreatDoor
open Go.RowKit Bf

theorem feq_self (n : Nat) : (feq n n || (!feq n n && !feq n n)) = true := by cases feq n n <;> rfl

theorem sameL_of : ∀ (l m : List NodeI), l.length = m.length → (∀ (i : Nat) (x y : NodeI), l[i]? = some x → m[i]? = some y → x.kind = y.kind ∧ x.text = y.text ∧ x.num = y.num ∧ x.kids = y.kids) → sameL l m = true
  | [], [], _, _ => rfl
  | [], _ :: _, h, _ => by simp at h
  | _ :: _, [], h, _ => by simp at h
  | x :: l, y :: m, h, hh => by
    obtain ⟨h1, h2, h3, h4⟩ := hh 0 x y rfl rfl
    have ih := sameL_of l m (by simpa using h) (fun i a b ha hb => hh (i + 1) a b ha hb)
    simp only [sameL, sameI, h1, h2, h3, h4, beq_self_eq_true, Bool.true_and, feq_self, ih, Bool.and_true]

mutual
/-- Trees that are one but for places have rows of nodes that are one but for places. -/
theorem flat_er : ∀ (b : Nat) (t u : T), t.er = u.er → (flat b t).map (fun n => { n with pos := 0 }) = (flat b u).map (fun n : NodeA => { n with pos := 0 })
  | b, .node k p x n ts, .node k' p' x' n' us, h => by
    simp only [T.er, T.node.injEq, true_and] at h
    obtain ⟨rfl, rfl, rfl, hl⟩ := h
    simp only [flat, List.map_cons, starts_er (b + 1) ts us hl, flatL_er (b + 1) ts us hl]
theorem flatL_er : ∀ (b : Nat) (ts us : List T), erL ts = erL us → (flatL b ts).map (fun n => { n with pos := 0 }) = (flatL b us).map (fun n : NodeA => { n with pos := 0 })
  | _, [], [], _ => rfl
  | _, [], _ :: _, h => by simp [erL] at h
  | _, _ :: _, [], h => by simp [erL] at h
  | b, t :: ts, u :: us, h => by
    simp only [erL, List.cons.injEq] at h
    have hs : t.size = u.size := by rw [← T.size_er t, h.1, T.size_er]
    simp only [flatL, List.map_append, flat_er b t u h.1, hs, flatL_er (b + u.size) ts us h.2]
theorem starts_er : ∀ (b : Nat) (ts us : List T), erL ts = erL us → starts b ts = starts b us
  | _, [], [], _ => rfl
  | _, [], _ :: _, h => by simp [erL] at h
  | _, _ :: _, [], h => by simp [erL] at h
  | b, t :: ts, u :: us, h => by
    simp only [erL, List.cons.injEq] at h
    have hs : t.size = u.size := by rw [← T.size_er t, h.1, T.size_er]
    simp only [starts, hs, starts_er (b + u.size) ts us h.2]
end

theorem same_of_er {t u : T} (h : t.er = u.er) : sameL ((flat 0 t).map toI) ((flat 0 u).map toI) = true := by
  have hf := flat_er 0 t u h
  refine sameL_of _ _ ?_ fun i x y hx hy => ?_
  · have := congrArg List.length hf
    simpa using this
  · rw [List.getElem?_map, Option.map_eq_some_iff] at hx hy
    obtain ⟨a, ha, rfl⟩ := hx
    obtain ⟨b, hb, rfl⟩ := hy
    have := congrArg (·[i]?) hf
    simp only [List.getElem?_map, ha, hb, Option.map_some, Option.some.injEq, NodeA.mk.injEq, true_and] at this
    obtain ⟨h1, h2, h3, h4⟩ := this
    exact ⟨h1, h2, h3, by simp [toI, h4]⟩

theorem index_at : ∀ (p x : List UInt8), 0 ≤ Lib.index (p ++ ([42, 47] ++ x)) [42, 47]
  | [], x => by
    unfold Lib.index
    simp
  | c :: p, x => by
    have ih := index_at p x
    rw [List.cons_append]
    unfold Lib.index
    split
    · omega
    · rw [if_neg (by simp only [beq_iff_eq]; omega)]
      omega

theorem closed_nl {q : UInt8} (hq : q ≠ 10) (r : List UInt8) (i : Nat) : closedFrom q (10 :: r) i = 0 := by
  unfold closedFrom
  rw [if_neg (fun e => hq e.symm), if_pos (.inl rfl)]

/-- A text that is wrong is so with a line's end and more behind it, if that has no star. -/
theorem index_none : ∀ (d t : List UInt8), Lib.index d [42, 47] < 0 → (42 : UInt8) ∉ t → Lib.index (d ++ 10 :: t) [42, 47] < 0 := by
  intro d t h ht
  rcases Int.lt_or_le (Lib.index (d ++ 10 :: t) [42, 47]) 0 with hx | hx
  · exact hx
  exfalso
  obtain ⟨p, q, hp⟩ := index_prefix _ _ hx
  have hstar : (d ++ 10 :: t)[p.length]? = some 42 := by rw [hp]; simp
  have hsl : (d ++ 10 :: t)[p.length + 1]? = some 47 := by rw [hp]; simp
  have hlt : p.length < d.length := by
    rcases Nat.lt_or_ge p.length d.length with h1 | h1
    · exact h1
    · rw [List.getElem?_append_right h1] at hstar
      have hm := List.mem_of_getElem? hstar
      simp at hm
      exact absurd hm ht
  have hlt2 : p.length + 1 < d.length := by
    rcases Nat.lt_or_ge (p.length + 1) d.length with h1 | h1
    · exact h1
    · rw [List.getElem?_append_right h1, show p.length + 1 - d.length = 0 by omega] at hsl
      cases hsl
  have hd : d = p ++ ([42, 47] ++ q.take (d.length - p.length - 2)) := by
    have := congrArg (List.take d.length) hp
    rw [List.take_left] at this
    rw [this, List.append_assoc, List.take_append, List.take_of_length_le (by omega), List.take_append, List.take_of_length_le (by simp; omega)]
    simp [Nat.sub_sub]
  have : 0 ≤ Lib.index d [42, 47] := by
    rw [hd]
    exact index_at p _
  omega

theorem closed_zero (q : UInt8) : ∀ (n : Nat) (s r : List UInt8) (i : Nat), s.length ≤ n → 0 < i → q ≠ 10 → closedFrom q s i = 0 → closedFrom q (s ++ 10 :: r) i = 0 := by
  intro n
  induction n with
  | zero =>
    intro s r i hs hi hq h
    have : s = [] := List.eq_nil_of_length_eq_zero (by omega)
    subst this
    exact closed_nl hq r i
  | succ n ih =>
    intro s r i hs hi hq h
    cases s with
    | nil =>
      exact closed_nl hq r i
    | cons b s =>
      simp only [List.length_cons] at hs
      rw [List.cons_append]
      unfold closedFrom at h ⊢
      by_cases h1 : b = q
      · rw [if_pos h1] at h; omega
      rw [if_neg h1] at h ⊢
      by_cases h2 : b = 10 ∨ b = 13
      · rw [if_pos h2]
      rw [if_neg h2] at h ⊢
      by_cases h3 : b = 92
      · rw [if_pos h3] at h ⊢
        cases s with
        | nil =>
          simp only [List.nil_append]
          simp only [true_or, if_true]
          exact closed_nl hq r _
        | cons c s =>
          simp only [List.cons_append] at h ⊢
          by_cases h4 : c = 10 ∨ c = 13
          · rw [if_pos h4] at h ⊢
            exact ih (c :: s) r (i + 1) (by simp at hs ⊢; omega) (by omega) hq h
          · rw [if_neg h4] at h ⊢
            exact ih s r (i + 2) (by simp at hs; omega) (by omega) hq h
      · rw [if_neg h3] at h ⊢
        exact ih s r (i + 1) (by omega) (by omega) hq h

theorem tokN_wrong {d : List UInt8} (h1 : 1 ≤ d.length) {n : Nat} (h : tokN d = .error n) (t : List UInt8) : ∃ m, tokN (d ++ 10 :: t) = .error m := by
  have hh : (d ++ 10 :: t).headD 0 = d.headD 0 := by cases d with | nil => simp at h1 | cons b d => rfl
  have htake : ∀ n, n ≤ d.length → (d ++ 10 :: t).take n = d.take n := fun n hn => List.take_append_of_le_length hn
  have hnl := nameLen_le d
  have hsl : signLen d ≤ d.length := by have := signFrom_le d (min 3 d.length); have e : signLen d = signFrom (min 3 d.length) d := rfl; omega
  unfold tokN at h ⊢
  rw [hh, nameLen_join, signLen_join, htake _ hnl, htake _ hsl]
  by_cases hk1 : bKind (d.headD 0) = 1
  · rw [if_pos hk1] at h ⊢; exact ⟨_, h⟩
  rw [if_neg hk1] at h ⊢
  by_cases hk2 : bKind (d.headD 0) = 2
  · rw [if_pos hk2] at h ⊢; exact ⟨_, h⟩
  rw [if_neg hk2] at h ⊢
  by_cases hk3 : bKind (d.headD 0) = 3
  · rw [if_pos hk3] at h ⊢
    by_cases hc : closedN d = 0
    · have hz : closedN (d ++ 10 :: t) = 0 := by
        cases d with
        | nil => simp at h1
        | cons b d =>
          have hq : b ≠ 10 := by
            rintro rfl
            simp [bKind, isQuote, isLetter, isDigit] at hk3
          exact closed_zero b d.length d t 1 (Nat.le_refl _) (by omega) hq hc
      rw [if_pos hz]
      exact ⟨_, rfl⟩
    · rw [closedN_join h1 hc, htake _ (Nat.le_of_lt (closedN_lt d h1))]
      exact ⟨_, h⟩
  · rw [if_neg hk3] at h ⊢
    exact ⟨_, h⟩

theorem lxN_bad {d : List UInt8} (h1 : 1 ≤ d.length) {n : Nat} (h : lxN d = .bad n) {t : List UInt8} (ht : (42 : UInt8) ∉ t) : ∃ m, lxN (d ++ 10 :: t) = .bad m := by
  have hh : (d ++ 10 :: t).headD 0 = d.headD 0 := by cases d with | nil => simp at h1 | cons b d => rfl
  unfold lxN at h ⊢
  rw [hh, hasPrefix_join d t 47 47 (by decide) (by decide), hasPrefix_join d t 47 42 (by decide) (by decide)]
  by_cases c1 : isBlank (d.headD 0) = true
  · rw [if_pos c1] at h; cases h
  rw [if_neg c1] at h ⊢
  by_cases c2 : (d.headD 0).toNat = 47 ∧ Lib.hasPrefix d [47, 47] = true
  · rw [if_pos c2] at h; cases h
  rw [if_neg c2] at h ⊢
  by_cases c3 : (d.headD 0).toNat = 47 ∧ Lib.hasPrefix d [47, 42] = true
  · rw [if_pos c3] at h ⊢
    have h2 := prefix_two c3.2
    rw [List.drop_append_of_le_length h2]
    by_cases c4 : Lib.index (d.drop 2) [42, 47] < 0
    · rw [if_pos (index_none _ _ c4 ht)]; exact ⟨_, rfl⟩
    · rw [if_neg c4] at h; cases h
  rw [if_neg c3] at h ⊢
  cases hk : tokN d with
  | error n =>
    obtain ⟨m, hm⟩ := tokN_wrong h1 hk t
    rw [hm]; exact ⟨_, rfl⟩
  | ok p => rw [hk] at h; cases h

/-- A text whose tokens are told, with a line's end and more behind it, has tokens itself. -/
theorem lexFrom_cut {t : List UInt8} (ht : (42 : UInt8) ∉ t) : ∀ (f : Nat) (d : List UInt8) (i : Nat) (acc l : List Tok), d.length ≤ f → lexFrom (d ++ 10 :: t).length (d ++ 10 :: t) i acc = .ok l →
    ∃ m, lexFrom f d i acc = .ok m := by
  intro f
  induction f with
  | zero =>
    intro d i acc l hd _
    exact ⟨_, rfl⟩
  | succ f ih =>
    intro d i acc l hd h
    cases d with
    | nil => exact ⟨_, rfl⟩
    | cons b d =>
      simp only [List.length_cons] at hd
      cases hl : lxN (b :: d) with
      | bad n =>
        obtain ⟨m, hm⟩ := lxN_bad (by simp) hl ht
        rw [List.cons_append, List.length_cons, lexFrom] at h
        rw [List.cons_append] at hm
        rw [hm] at h
        cases h
      | skip n =>
        have hb := lxN_skip (by simp) hl
        have hj := lxN_join (d := b :: d) (by simp) t (by rw [hl]; simp)
        rw [hl] at hj
        rw [List.cons_append, List.length_cons, lexFrom] at h
        rw [List.cons_append] at hj
        rw [hj] at h
        simp only at h
        rw [← List.cons_append, List.drop_append_of_le_length hb.2] at h
        rw [lexFrom, hl]
        simp only
        simp only [List.length_cons] at hb
        exact ih _ _ _ l (by simp; omega) (by rw [← h]; exact lexFrom_fuel (b :: (d ++ 10 :: t)).length _ _ _ _ _ (by simp; omega) (Nat.le_refl _) (by simp; omega))
      | tok tk n =>
        have hb := lxN_tok (by simp) hl
        have hj := lxN_join (d := b :: d) (by simp) t (by rw [hl]; simp)
        rw [hl] at hj
        rw [List.cons_append, List.length_cons, lexFrom] at h
        rw [List.cons_append] at hj
        rw [hj] at h
        simp only at h
        rw [lexFrom, hl]
        simp only
        by_cases hf : acc.length = 16384
        · rw [if_pos hf] at h; cases h
        rw [if_neg hf] at h ⊢
        rw [← List.cons_append, List.drop_append_of_le_length hb.2] at h
        simp only [List.length_cons] at hb
        exact ih _ _ _ l (by simp; omega) (by rw [← h]; exact lexFrom_fuel (b :: (d ++ 10 :: t)).length _ _ _ _ _ (by simp; omega) (Nat.le_refl _) (by simp; omega))

theorem tok120 (r : List UInt8) : lxN (120 :: 32 :: r) = .tok ⟨1, 0, [120], 0⟩ 1 := by
  have hn : nameLen (120 :: 32 :: r) = 1 := by
    unfold nameLen
    rw [List.takeWhile_cons, if_pos (by decide), List.takeWhile_cons, if_neg (by decide)]
    rfl
  unfold lxN
  have hh : (120 :: 32 :: r).headD 0 = (120 : UInt8) := rfl
  rw [hh, if_neg (by decide), if_neg (by intro h; exact absurd h.1 (by decide)), if_neg (by intro h; exact absurd h.1 (by decide))]
  unfold tokN
  have hw : word [120] = false := by decide +kernel
  rw [hh, if_pos (by decide), hn, if_neg (by decide)]
  simp [hw]

theorem skip32 (r : List UInt8) : lxN (32 :: r) = .skip 1 := by
  unfold lxN
  have hh : (32 :: r).headD 0 = (32 : UInt8) := rfl
  rw [hh, if_pos (by decide)]

theorem tok61 (r : List UInt8) : lxN (61 :: 32 :: r) = .tok ⟨5, 0, [61], 0⟩ 1 := by
  have hsp : ∀ r, sign (61 :: 32 :: r) = false := fun r => by
    cases hs : sign (61 :: 32 :: r) with
    | false => rfl
    | true => exact absurd (indexByte_two 61 r) (among_has _ _ hs).1
  have h1 : sign [61] = true := by decide +kernel
  have hl : signLen (61 :: 32 :: r) = 1 := by
    unfold signLen
    cases r with
    | nil => simp [signFrom, h1, hsp []]
    | cons d r =>
      rw [show min 3 (61 :: 32 :: d :: r).length = 3 by simp]
      simp [signFrom, h1, hsp]
  unfold lxN
  have hh : (61 :: 32 :: r).headD 0 = (61 : UInt8) := rfl
  rw [hh, if_neg (by decide), if_neg (by intro h; exact absurd h.1 (by decide)), if_neg (by intro h; exact absurd h.1 (by decide))]
  unfold tokN
  rw [hh, if_neg (by decide), if_neg (by decide), if_neg (by decide), hl]
  simp

theorem lex_head (r : List UInt8) : lexFrom (120 :: 32 :: 61 :: 32 :: r).length (120 :: 32 :: 61 :: 32 :: r) 0 [] = lexFrom r.length r 4 [⟨1, 0, [120], 0⟩, ⟨5, 2, [61], 0⟩] := by
  simp only [List.length_cons]
  rw [lexFrom, tok120]
  simp only [List.length_nil]
  rw [if_neg (by decide)]
  simp only [List.drop_succ_cons, List.drop_zero]
  rw [lexFrom, skip32]
  simp only [List.drop_succ_cons, List.drop_zero]
  rw [lexFrom, tok61]
  simp only
  rw [if_neg (by decide)]
  simp only [List.drop_succ_cons, List.drop_zero]
  rw [lexFrom, skip32]
  simp

theorem lexFrom_err_shift : ∀ (f : Nat) (s : List UInt8) (i k : Nat) (acc P : List Tok) (p n : Nat), lexFrom f s i acc = .error (p, n) → P.length + acc.length + s.length ≤ 16384 → ∃ x, lexFrom f s (i + k) (P ++ acc.map (sh k)) = .error x := by
  intro f
  induction f with
  | zero => intro s i k acc P p n h _; simp [lexFrom] at h
  | succ f ih =>
    intro s i k acc P p n h hl
    cases s with
    | nil => simp [lexFrom] at h
    | cons b s =>
      rw [lexFrom] at h ⊢
      cases hx : lxN (b :: s) with
      | bad m => exact ⟨_, rfl⟩
      | skip m =>
        rw [hx] at h
        simp only at h ⊢
        have hb := lxN_skip (by simp) hx
        rw [show i + k + m = i + m + k by omega]
        exact ih _ _ k _ P p n h (by simp only [List.length_drop]; omega)
      | tok t m =>
        rw [hx] at h
        simp only at h ⊢
        have hb := lxN_tok (by simp) hx
        simp only [List.length_cons] at hl hb
        rw [if_neg (by omega)] at h
        rw [if_neg (by simp; omega)]
        have := ih _ _ k _ P p n h (by simp only [List.length_drop, List.length_append, List.length_cons, List.length_nil]; omega)
        rw [List.map_append] at this
        rw [show i + k + m = i + m + k by omega, List.append_assoc]
        exact this

theorem tokens_plain {s : List UInt8} {l : List Tok} (hs : s.length ≤ 3000) (h : tokens (plainT s) = .ok l) : ∃ la p q, lexFrom s.length s 0 [] = .ok la ∧ la.length ≤ s.length ∧
    l = [⟨1, 0, [120], 0⟩, ⟨5, 2, [61], 0⟩] ++ la.map (sh 4) ++ [⟨5, p, [59], 0⟩, ⟨0, q, [], 0⟩] := by
  unfold tokens at h
  have e : plainT s = 120 :: 32 :: 61 :: 32 :: (s ++ 10 :: [59]) := by simp [plainT]
  cases hx : lexFrom (plainT s).length (plainT s) 0 [] with
  | error e => rw [hx] at h; cases h
  | ok la0 =>
    rw [hx] at h
    cases h
    rw [e, lex_head] at hx
    obtain ⟨m0, hm0⟩ := lexFrom_cut (by decide) s.length s 4 _ _ (Nat.le_refl _) hx
    have hlex : ∃ la, lexFrom s.length s 0 [] = .ok la := by
      cases hz : lexFrom s.length s 0 [] with
      | ok la => exact ⟨la, rfl⟩
      | error er =>
        exfalso
        have := lexFrom_err_shift s.length s 0 4 [] [⟨1, 0, [120], 0⟩, ⟨5, 2, [61], 0⟩] er.1 er.2 hz (by simp; omega)
        rw [Nat.zero_add] at this
        obtain ⟨x, hx2⟩ := this
        simp only [List.map_nil, List.append_nil] at hx2
        rw [hm0] at hx2
        cases hx2
    obtain ⟨la, hla⟩ := hlex
    have hb := lexFrom_bound _ _ _ _ _ hla
    simp only [List.length_nil, Nat.zero_add] at hb
    have hsh := lexFrom_shift 4 [⟨1, 0, [120], 0⟩, ⟨5, 2, [61], 0⟩] s.length s 0 [] la hla (by simp; omega)
    simp only [List.map_nil, List.append_nil, Nat.zero_add] at hsh
    rw [lexFrom_first [59] s.length s 4 _ _ (Nat.le_refl _) hsh] at hx
    rw [show ([59] : List UInt8).length = 0 + 1 from rfl, lexFrom, lx59] at hx
    simp only at hx
    rw [if_neg (by simp; omega)] at hx
    simp only [lexFrom] at hx
    cases hx
    exact ⟨la, _, _, hla, hb, by simp; exact ⟨rfl, rfl⟩⟩

theorem tokens_round {s : List UInt8} {la l : List Tok} (hla : lexFrom s.length s 0 [] = .ok la) (hb : la.length ≤ 3000) (h : tokens (roundT s) = .ok l) : ∃ p p2 q,
    l = [⟨1, 0, [120], 0⟩, ⟨5, 2, [61], 0⟩, ⟨5, 4, [40], 0⟩] ++ la.map (sh 5) ++ [⟨5, p, [41], 0⟩, ⟨5, p2, [59], 0⟩, ⟨0, q, [], 0⟩] := by
  unfold tokens at h
  have e : roundT s = 120 :: 32 :: 61 :: 32 :: 40 :: (s ++ 10 :: [41, 59]) := by simp [roundT]
  cases hx : lexFrom (roundT s).length (roundT s) 0 [] with
  | error e => rw [hx] at h; cases h
  | ok la0 =>
    rw [hx] at h
    cases h
    rw [e, lex_head, List.length_cons, lexFrom, lx40] at hx
    simp only at hx
    rw [if_neg (by decide)] at hx
    simp only [List.drop_succ_cons, List.drop_zero, List.cons_append, List.nil_append] at hx
    have hsh := lexFrom_shift 5 [⟨1, 0, [120], 0⟩, ⟨5, 2, [61], 0⟩, ⟨5, 4, [40], 0⟩] s.length s 0 [] la hla (by simp; omega)
    simp only [List.map_nil, List.append_nil, Nat.zero_add] at hsh
    rw [show 4 + 1 = 5 from rfl] at hx
    rw [lexFrom_first [41, 59] s.length s 5 _ _ (Nat.le_refl _) hsh] at hx
    rw [show ([41, 59] : List UInt8).length = 0 + 1 + 1 from rfl, lexFrom, lx41] at hx
    simp only at hx
    rw [if_neg (by simp; omega)] at hx
    simp only [List.drop_succ_cons, List.drop_zero] at hx
    rw [lexFrom, lx59] at hx
    simp only at hx
    rw [if_neg (by simp; omega)] at hx
    simp only [lexFrom] at hx
    cases hx
    exact ⟨_, _, _, by simp; exact ⟨rfl, rfl, rfl⟩⟩

/-- A value is one node. -/
def One1 (r : Res (List T)) : Prop := ∀ v R', r = .ok v R' → v.length = 1
theorem One1.fail (e : Nat) (S : List Tok) : One1 (Bf.fail e S) := fun _ _ h => by cases h
theorem One1.one (t : T) (S : List Tok) : One1 (.ok [t] S) := fun _ _ h => by cases h; rfl
theorem One1.bind {α : Type} {r : Res α} {f : α → List Tok → Res (List T)} (h : ∀ a R1, r = .ok a R1 → One1 (f a R1)) : One1 (r.bind f) := fun v R' e => by
  cases r with
  | ok a R1 => exact h a R1 rfl v R' e
  | err x y => cases e
  | out => cases e
theorem One1.ite {c : Prop} [Decidable c] {a b : Res (List T)} (h1 : One1 a) (h2 : One1 b) : One1 (if c then a else b) := by
  by_cases h : c
  · rw [if_pos h]; exact h1
  · rw [if_neg h]; exact h2

def isVal : G → Prop
  | .assign _ => True
  | .cond _ => True
  | .binary _ _ => True
  | .binTail _ _ _ _ => True
  | .unary _ => True
  | .postfix_ _ _ => True
  | .postTail _ _ _ _ => True
  | .primary _ => True
  | _ => False

theorem value_one : ∀ (n : Nat) (g : G) (R : List Tok), isVal g → One1 (pRun n g R) := by
  intro n
  induction n with
  | zero => intro g R _ v R' h; cases h
  | succ n ih =>
    intro g R hg
    cases g with
    | assign lv =>
      exact One1.ite (One1.fail _ _) (One1.bind fun k R1 hk => One1.ite (One1.ite (One1.fail _ _) (One1.bind fun _ _ _ => One1.one _ _)) (fun v R' e => by cases e; exact ih (.cond _) _ trivial _ _ hk))
    | cond lv =>
      exact One1.bind fun k R1 hk => One1.ite (One1.bind fun _ _ _ => One1.bind fun _ _ _ => One1.bind fun _ _ _ => One1.one _ _) (fun v R' e => by cases e; exact ih (.binary _ _) _ trivial _ _ hk)
    | binary lv least => exact One1.bind fun k R1 hk => ih (.binTail _ _ _ _) _ trivial
    | binTail lv least pos k => exact One1.ite (One1.one _ _) (One1.bind fun _ _ _ => ih _ _ trivial)
    | unary lv => exact One1.ite (One1.ite (One1.fail _ _) (One1.bind fun _ _ _ => One1.one _ _)) (ih _ _ trivial)
    | postfix_ lv calls => exact One1.bind fun k R1 hk => ih _ _ trivial
    | postTail lv calls pos k => exact One1.ite (One1.ite (One1.fail _ _) (ih _ _ trivial)) (One1.ite (One1.bind fun _ _ _ => One1.bind fun _ _ _ => ih _ _ trivial) (One1.ite (One1.bind fun _ _ _ => ih _ _ trivial) (One1.one _ _)))
    | primary lv =>
      exact One1.ite (One1.one _ _) (One1.ite (One1.one _ _) (One1.ite (One1.one _ _) (One1.ite (One1.one _ _) (One1.ite (One1.bind fun _ _ _ => One1.bind fun _ _ _ => One1.one _ _)
        (One1.ite (One1.bind fun k R1 hk => One1.bind fun _ _ _ => fun v R' e => by cases e; exact ih (.assign _) _ trivial _ _ hk)
          (One1.ite (One1.bind fun _ _ _ => One1.one _ _) (One1.ite (One1.bind fun _ _ _ => One1.one _ _) (One1.fail _ _))))))))
    | _ => exact hg.elim

theorem det {n m : Nat} {g : G} {R : List Tok} {r r' : Res (List T)} (h : pRun n g R = r) (h' : pRun m g R = r') (hr : r ≠ .out) (hr' : r' ≠ .out) : r = r' := by
  have h1 := pRun_mono (Nat.le_max_left n m) g R (by rw [h]; exact hr)
  have h2 := pRun_mono (Nat.le_max_right n m) g R (by rw [h']; exact hr')
  rw [← h, ← h', ← h1, h2]

theorem bind_ok {α β : Type} {r : Res α} {f : α → List Tok → Res β} {v : β} {R' : List Tok} (h : r.bind f = .ok v R') : ∃ a R1, r = .ok a R1 ∧ f a R1 = .ok v R' := by
  cases r with
  | ok a R1 => exact ⟨a, R1, rfl, h⟩
  | err x y => cases h
  | out => cases h

theorem need_ok {s : List UInt8} {R R' : List Tok} {u : Unit} (h : need s R = .ok u R') : isTok (hd R) s = true ∧ R' = R.tail := by
  unfold need at h
  by_cases hs : isTok (hd R) s = true
  · rw [if_pos hs] at h; cases h; exact ⟨hs, rfl⟩
  · rw [if_neg hs] at h; cases h

theorem inv_top {N : Nat} {X R : List Tok} {ts : List T} (h : pRun N (.stmts 0 true) X = .ok ts R) (hk : ((hd X).kind == 0) = false) : ∃ n k r ks, pRun n (.stmt 0) X = .ok k r ∧ pRun n (.stmts 0 true) r = .ok ks R ∧ ts = k ++ ks := by
  cases N with
  | zero => cases h
  | succ n =>
    rw [top_more hk] at h
    obtain ⟨k, r, h1, h⟩ := bind_ok h
    obtain ⟨ks, r2, h2, h⟩ := bind_ok h
    cases h
    exact ⟨n, k, r, ks, h1, h2, rfl⟩

theorem inv_stmt {N : Nat} {X r : List Tok} {k : List T} (h : pRun N (.stmt 0) X = .ok k r) (x1 : isTok (hd X) [123] = false) (x2 : isTok (hd X) [59] = false) (x3 : ((hd X).kind == 2) = false) :
    ∃ n v r1, pRun n (.assign 1) X = .ok v r1 ∧ isTok (hd r1) [59] = true ∧ r = r1.tail ∧ k = [.node 6 (hd X).pos [] 0 v] := by
  cases N with
  | zero => cases h
  | succ n =>
    have e : pRun (n + 1) (.stmt 0) X = exprS (pRun n) 1 (hd X).pos X := by
      show stmtB (pRun n) 0 X = _
      unfold stmtB
      simp only [x1, x2, x3, Bool.not_false, if_true, Bool.false_eq_true, if_false]
      rw [if_neg (by decide)]
    rw [e] at h
    obtain ⟨v, r1, h1, h⟩ := bind_ok h
    obtain ⟨u, r2, h2, h⟩ := bind_ok h
    obtain ⟨h3, rfl⟩ := need_ok h2
    cases h
    exact ⟨n, v, r1, h1, h3, rfl, rfl⟩

theorem cond_of_primary {n lv : Nat} {X R : List Tok} {t : T} (h : pRun n (.primary lv) X = .ok [t] R) (s1 : isTok (hd R) [46] = false) (s2 : isTok (hd R) [91] = false) (s3 : isTok (hd R) [40] = false) (s4 : isTok (hd R) [63] = false) (s6 : Bf.tight (hd R) = 0) (hu : isUnary (hd X) = false) (hw : isTok (hd X) [110, 101, 119] = false) :
    ∃ m, pRun m (.cond lv) X = .ok [t] R := by
  have p1 : ∀ m, pRun (m + 1) (.postTail lv true (hd X).pos t) R = .ok [t] R := fun m => by
    show postTailB (pRun m) lv true (hd X).pos t R = _
    unfold postTailB
    simp [s1, s2, s3]
  have p2 : pRun (n + 1 + 1) (.postfix_ lv true) X = .ok [t] R := by
    show postfixB (pRun (n + 1)) lv true X = _
    unfold postfixB
    rw [run_up (Nat.le_succ n) h (by simp)]
    simp only [hw, Bool.false_eq_true, if_false, Res.bind]
    exact p1 n
  have p3 : pRun (n + 1 + 1 + 1) (.unary lv) X = .ok [t] R := by
    show unaryB (pRun (n + 1 + 1)) lv X = _
    unfold unaryB
    simp only [hu, Bool.false_eq_true, if_false]
    exact p2
  have p4 : pRun (n + 1 + 1 + 1 + 1) (.binary lv 3) X = .ok [t] R := by
    show binaryB (pRun (n + 1 + 1 + 1)) lv 3 X = _
    unfold binaryB
    rw [p3]
    show binTailB (pRun (n + 1 + 1)) lv 3 (hd X).pos t R = _
    unfold binTailB
    rw [s6]
    rfl
  refine ⟨n + 1 + 1 + 1 + 1 + 1, ?_⟩
  show condB (pRun (n + 1 + 1 + 1 + 1)) lv X = _
  unfold condB
  rw [p4]
  simp only [Res.bind, s4, Bool.false_eq_true, if_false]

theorem inv_assign_eq {N lv : Nat} {X r r0 : List Tok} {v : List T} {x : T} (h : pRun N (.assign lv) X = .ok v r) (hc : ∃ m, pRun m (.cond (lv + 1)) X = .ok [x] r0) (ha : assignOp (hd r0) = true) :
    ∃ n a, pRun n (.assign (lv + 1)) r0.tail = .ok a r ∧ v = [.node 43 (hd X).pos (hd r0).text 0 ([x] ++ a)] := by
  cases N with
  | zero => cases h
  | succ n =>
    have e : pRun (n + 1) (.assign lv) X = assignB (pRun n) lv X := rfl
    rw [e] at h
    unfold assignB at h
    by_cases hl : 200 < lv + 1
    · rw [if_pos hl] at h; cases h
    rw [if_neg hl] at h
    obtain ⟨k, r1, h1, h⟩ := bind_ok h
    obtain ⟨m, hm⟩ := hc
    have hd := det hm h1 (by simp) (by simp)
    cases hd
    rw [if_pos ha] at h
    split at h
    · cases h
    · obtain ⟨a, r2, h2, h⟩ := bind_ok h
      cases h
      exact ⟨n, a, h2, rfl⟩

/-- What x = (..) is read as. -/
theorem inv_head {N : Nat} {Y R : List Tok} {ts : List T} (h : pRun N (.stmts 0 true) (⟨1, 0, [120], 0⟩ :: ⟨5, 2, [61], 0⟩ :: Y) = .ok ts R) :
    ∃ n a r m ks, pRun n (.assign 2) Y = .ok a r ∧ isTok (hd r) [59] = true ∧ pRun m (.stmts 0 true) r.tail = .ok ks R ∧ ts = .node 6 0 [] 0 [.node 43 0 [61] 0 (.node 26 0 [120] 0 [] :: a)] :: ks := by
  obtain ⟨n1, k, r1, ks, h1, h2, rfl⟩ := inv_top h rfl
  obtain ⟨n2, v, r2, h3, h4, rfl, rfl⟩ := inv_stmt h1 rfl rfl rfl
  obtain ⟨n3, a, h5, rfl⟩ := inv_assign_eq (r0 := ⟨5, 2, [61], 0⟩ :: Y) (x := .node 26 0 [120] 0 []) h3 (cond_of_primary (n := 1) rfl rfl rfl rfl rfl rfl rfl rfl) rfl
  exact ⟨n3, a, r2, n1, ks, h5, h4, h2, rfl⟩

theorem brackets_is (s : List UInt8) (hs : s.length ≤ 3000) : BracketsIs s := by
  intro a b ha hb
  have toks : ∀ {s : List UInt8} {t : T}, parseR s = .ok t → ∃ l ts R, tokens s = .ok l ∧ Go.Proofs.YtgdamcmfdhhheaaGreatDoor.scriptR l = .ok ts R ∧ t = rootT l ts := by
    intro s t h
    unfold parseR at h
    split at h
    · rename_i l hl
      unfold treeR at h
      split at h
      · split at h
        · rename_i ts R hs
          split at h
          · cases h
          · cases h
            exact ⟨l, ts, R, hl, hs, rfl⟩
        · cases h
        · cases h
      · cases h
    · cases h
  obtain ⟨l1, ts1, R1, ht1, hs1, rfl⟩ := toks ha
  obtain ⟨l2, ts2, R2, ht2, hs2, rfl⟩ := toks hb
  obtain ⟨la, p, q, hla, hlen, rfl⟩ := tokens_plain hs ht1
  obtain ⟨p1, p2, q2, rfl⟩ := tokens_round hla (by omega) ht2
  have hmap : (la.map (sh 5)).map Tok.er = (la.map (sh 4)).map Tok.er := by rw [map_sh_er, map_sh_er]
  generalize la.map (sh 4) = A at *
  generalize la.map (sh 5) = B at *
  obtain ⟨N1, hs1'⟩ : ∃ N, pRun N (.stmts 0 true) (⟨1, 0, [120], 0⟩ :: ⟨5, 2, [61], 0⟩ :: (A ++ [(⟨5, p, [59], 0⟩ : Tok), ⟨0, q, [], 0⟩])) = .ok ts1 R1 := ⟨_, by simp only [List.cons_append, List.nil_append] at hs1; exact hs1⟩
  obtain ⟨N2, hs2'⟩ : ∃ N, pRun N (.stmts 0 true) (⟨1, 0, [120], 0⟩ :: ⟨5, 2, [61], 0⟩ :: (⟨5, 4, [40], 0⟩ :: (B ++ [(⟨5, p1, [41], 0⟩ : Tok), ⟨5, p2, [59], 0⟩, ⟨0, q2, [], 0⟩]))) = .ok ts2 R2 := ⟨_, by simp only [List.cons_append, List.nil_append] at hs2; exact hs2⟩
  obtain ⟨n1, a1, r1, m1, ks1, h1, e1, g1, rfl⟩ := inv_head hs1'
  obtain ⟨n2, a2, r2, m2, ks2, h2, e2, g2, rfl⟩ := inv_head hs2'
  -- what stands in the brackets
  have hprim : ∃ n k r, pRun n (.assign 3) (B ++ [⟨5, p1, [41], 0⟩, ⟨5, p2, [59], 0⟩, ⟨0, q2, [], 0⟩]) = .ok k r ∧ isTok (hd r) [41] = true ∧ pRun (n + 1) (.primary 3) (⟨5, 4, [40], 0⟩ :: (B ++ [⟨5, p1, [41], 0⟩, ⟨5, p2, [59], 0⟩, ⟨0, q2, [], 0⟩])) = .ok k r.tail := by
    generalize hY : B ++ [(⟨5, p1, [41], 0⟩ : Tok), ⟨5, p2, [59], 0⟩, ⟨0, q2, [], 0⟩] = Y at h2
    have hg := (ih_all (40 * (Y.length + 1) + 4 + 1)).primary 3 (⟨5, 4, [40], 0⟩ :: Y) (by simp only [List.length_cons]; omega)
    have hp : pRun (40 * (Y.length + 1) + 4 + 1) (.primary 3) (⟨5, 4, [40], 0⟩ :: Y) = ((pRun (40 * (Y.length + 1) + 4) (.assign 3) Y).bind fun k r => (need [41] r).bind fun _ r => .ok k r) := rfl
    cases hx : pRun (40 * (Y.length + 1) + 4 + 1) (.primary 3) (⟨5, 4, [40], 0⟩ :: Y) with
    | out => exact absurd hx hg.1
    | err e x =>
      obtain ⟨m, hm⟩ := assign_err (lv := 2) hx rfl rfl (by omega)
      have := det hm h2 (by simp) (by simp)
      cases this
    | ok k r =>
      rw [hp] at hx
      obtain ⟨k', r', h3, hx⟩ := bind_ok hx
      obtain ⟨u, r'', h4, hx⟩ := bind_ok hx
      obtain ⟨h5, rfl⟩ := need_ok h4
      cases hx
      refine ⟨_, _, r', h3, h5, ?_⟩
      rw [hp, h3]
      simp only [Res.bind, need, h5, if_true]
  obtain ⟨n3, k3, r3, h3, e3, hp3⟩ := hprim
  -- the two runs, one beside the other
  have hq : Stops ⟨[⟨5, p1, [41], 0⟩, ⟨5, p2, [59], 0⟩, ⟨0, q2, [], 0⟩], [⟨5, p, [59], 0⟩, ⟨0, q, [], 0⟩]⟩ True True :=
    ⟨fun _ => rfl, fun _ => rfl, fun _ => rfl, fun _ => rfl, fun _ => rfl, fun _ => rfl, fun _ => rfl, fun _ => rfl, fun _ => rfl⟩
  have hrel := (ihR_all hq n3).assign True 3 2 (B ++ [⟨5, p1, [41], 0⟩, ⟨5, p2, [59], 0⟩, ⟨0, q2, [], 0⟩]) (A ++ [⟨5, p, [59], 0⟩, ⟨0, q, [], 0⟩]) (by omega) k3 r3 h3
  have hk3 := keep n3 (.assign 3) (B ++ [⟨5, p1, [41], 0⟩, ⟨5, p2, [59], 0⟩, ⟨0, q2, [], 0⟩]) k3 r3 h3
  rcases hrel.2 trivial ⟨B, A, rfl, rfl, hmap⟩ with hlow | ⟨v', R1', hv, hsam, heq⟩
  · exfalso
    have hl : r3.length < 3 := hlow.2 trivial
    obtain ⟨P, hP, _⟩ := hk3
    have hr : r3 = [⟨5, p2, [59], 0⟩, ⟨0, q2, [], 0⟩] ∨ r3 = [⟨0, q2, [], 0⟩] ∨ r3 = [] := by
      have hd : r3 = (B ++ [(⟨5, p1, [41], 0⟩ : Tok), ⟨5, p2, [59], 0⟩, ⟨0, q2, [], 0⟩]).drop P.length := by rw [hP, List.drop_left]
      have hlen2 : B.length + 3 = P.length + r3.length := by have := congrArg List.length hP; simpa using this
      obtain ⟨d, hdd⟩ : ∃ d, P.length = B.length + 1 + d := ⟨P.length - (B.length + 1), by omega⟩
      rw [hdd, List.drop_append, List.drop_eq_nil_of_le (by omega), show B.length + 1 + d - B.length = d + 1 by omega] at hd
      simp only [List.nil_append, List.drop_succ_cons] at hd
      rcases d with _ | _ | _ | d
      · exact .inl hd
      · exact .inr (.inl hd)
      · exact .inr (.inr hd)
      · exact .inr (.inr (by simpa using hd))
    rcases hr with rfl | rfl | rfl <;> exact absurd e3 (by simp [isTok, hd])
  · have hdet := det h1 hv (by simp) (by simp)
    cases hdet
    obtain ⟨Y, Y', rfl, rfl, hYY⟩ := hsam
    cases Y with
    | cons y Y =>
      exfalso
      cases Y' with
      | nil => simp at hYY
      | cons y' Y' =>
        simp only [List.map_cons, List.cons.injEq] at hYY
        have ht := er_text hYY.1
        have t1 : y.text = [41] := by
          have : isTok y [41] = true := e3
          simp [isTok] at this
          exact this.1
        have t2 : y'.text = [59] := by
          have : isTok y' [59] = true := e1
          simp [isTok] at this
          exact this.1
        rw [t1, t2] at ht
        exact absurd ht (by decide)
    | nil =>
      cases Y' with
      | cons y Y => simp at hYY
      | nil =>
        have hone3 := value_one n3 (.assign 3) _ trivial k3 _ h3
        have hone1 := value_one n1 (.assign 2) _ trivial a1 _ h1
        obtain ⟨t3, rfl⟩ := List.length_eq_one_iff.1 hone3
        obtain ⟨t1, rfl⟩ := List.length_eq_one_iff.1 hone1
        obtain ⟨m, hm⟩ := assign_of_primary (lv := 2) hp3 (still59 _ _) rfl rfl (by omega)
        have hd2 := det hm h2 (by simp) (by simp)
        cases hd2
        have hk1 : ks1 = [] ∧ R1 = [⟨0, q, [], 0⟩] := by
          have := det (n := 1) (r := .ok [] [⟨0, q, [], 0⟩]) rfl g1 (by simp) (by simp)
          cases this
          exact ⟨rfl, rfl⟩
        have hk2 : ks2 = [] ∧ R2 = [⟨0, q2, [], 0⟩] := by
          have := det (n := 1) (r := .ok [] [⟨0, q2, [], 0⟩]) rfl g2 (by simp) (by simp)
          cases this
          exact ⟨rfl, rfl⟩
        obtain ⟨rfl, rfl⟩ := hk1
        obtain ⟨rfl, rfl⟩ := hk2
        apply same_of_er
        have hE : erL [t3] = erL [t1] := heq
        simp only [rootT, T.er, erL, T.node.injEq, true_and, List.cons.injEq, and_true] at hE ⊢
        exact hE.symm

end Go.Proofs.YtgdamcmfdhhheaaGreatDoor
