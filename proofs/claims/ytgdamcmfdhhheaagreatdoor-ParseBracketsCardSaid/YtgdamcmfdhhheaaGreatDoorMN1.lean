/- A sign that stands alone is a token, whatever follows; where a lexer's run is cut: plain laws of the lexer. -/
import Derived.Test.YtgdamcmfdhhheaaGreatDoorMJ1
import Derived.Test.YtgdamcmfdhhheaaGreatDoorMN0
set_option linter.all false

namespace Go.Proofs.YtgdamcmfdhhheaaGreatDoor
open Go.RowKit Bf

theorem index_prefix : ∀ (row x : List UInt8), 0 ≤ Lib.index row x → ∃ p q, row = p ++ x ++ q := by
  intro row x
  induction row with
  | nil =>
    intro h
    cases x with
    | nil => exact ⟨[], [], rfl⟩
    | cons a t => simp [Lib.index] at h
  | cons c row ih =>
    intro h
    unfold Lib.index at h
    by_cases h1 : x.isPrefixOf (c :: row) = true
    · obtain ⟨q, hq⟩ := List.isPrefixOf_iff_prefix.1 h1
      exact ⟨[], q, by simp [hq]⟩
    · rw [if_neg h1] at h
      have hge := Lib.index_ge row x
      by_cases h3 : Lib.index row x = -1
      · rw [h3] at h; simp at h
      · obtain ⟨p, q, hp⟩ := ih (by omega)
        exact ⟨c :: p, q, by rw [hp]; simp⟩

/-- Signs that no other sign begins with. -/
def lone (c : UInt8) : Prop := ∀ i, i < signsRow.length → signsRow[i]? = some c → signsRow[i + 1]? = some 32

theorem among_has (row s : List UInt8) (h : among row s = true) : ¬ 0 ≤ Lib.indexByte s 32 ∧ ∃ p q, row = p ++ ([32] ++ s ++ [32]) ++ q := by
  unfold among at h
  simp only [Bool.and_eq_true, Bool.not_eq_true', decide_eq_false_iff_not] at h
  refine ⟨h.1.2, ?_⟩
  have h2 := h.2
  unfold Lib.contains at h2
  simp only [decide_eq_true_eq] at h2
  exact index_prefix row _ h2

theorem indexByte_two (c : UInt8) (r : List UInt8) : 0 ≤ Lib.indexByte (c :: 32 :: r) 32 := by
  by_cases h : c = 32
  · subst h; simp [Lib.indexByte]
  · simp [Lib.indexByte, h]

theorem lone_long {c b : UInt8} (hc : lone c) (r : List UInt8) : sign (c :: b :: r) = false := by
  cases hs : sign (c :: b :: r) with
  | false => rfl
  | true =>
    exfalso
    obtain ⟨h1, p, q, h2⟩ := among_has _ _ hs
    have e1 : signsRow[p.length + 1]? = some c := by rw [h2]; simp
    have e2 : signsRow[p.length + 1 + 1]? = some b := by
      rw [h2, show p ++ ([32] ++ (c :: b :: r) ++ [32]) ++ q = (p ++ [32, c]) ++ (b :: (r ++ 32 :: q)) by simp, List.getElem?_append_right (by simp)]
      simp
    have hlt := (List.getElem?_eq_some_iff.1 e1).1
    have e3 := hc _ hlt e1
    rw [e2] at e3
    cases e3
    exact h1 (indexByte_two c r)

theorem lone_token {c : UInt8} (hc : lone c) (hs : sign [c] = true) (hk : bKind c = 0) (r : List UInt8) : tokN (c :: r) = .ok (⟨5, 0, [c], 0⟩, 1) := by
  have hl : signLen (c :: r) = 1 := by
    unfold signLen
    cases r with
    | nil => simp [signFrom, hs]
    | cons b r =>
      cases r with
      | nil => simp [signFrom, hs, lone_long hc []]
      | cons d r =>
        rw [show min 3 (c :: b :: d :: r).length = 3 by simp]
        simp [signFrom, hs, lone_long hc]
  unfold tokN
  have hh : (c :: r).headD 0 = c := rfl
  rw [hh, if_neg (by omega), if_neg (by omega), if_neg (by omega), hl]
  simp

theorem lone_lx {c : UInt8} (hc : lone c) (hs : sign [c] = true) (hk : bKind c = 0) (hb : isBlank c = false) (h47 : c.toNat ≠ 47) (r : List UInt8) : lxN (c :: r) = .tok ⟨5, 0, [c], 0⟩ 1 := by
  unfold lxN
  have hh : (c :: r).headD 0 = c := rfl
  rw [hh, hb, if_neg (by decide), if_neg (by intro h; exact h47 h.1), if_neg (by intro h; exact h47 h.1), lone_token hc hs hk]

theorem lone_of (c : UInt8) (h : ((List.range signsRow.length).all fun i => signsRow[i]? != some c || signsRow[i + 1]? == some 32) = true) : lone c := by
  intro i hi he
  have := List.all_eq_true.1 h i (List.mem_range.2 hi)
  rw [he] at this
  simpa using this

theorem lx40 (r : List UInt8) : lxN (40 :: r) = .tok ⟨5, 0, [40], 0⟩ 1 := lone_lx (lone_of 40 (by decide +kernel)) (by decide +kernel) (by decide) (by decide) (by decide) r
theorem lx41 (r : List UInt8) : lxN (41 :: r) = .tok ⟨5, 0, [41], 0⟩ 1 := lone_lx (lone_of 41 (by decide +kernel)) (by decide +kernel) (by decide) (by decide) (by decide) r
theorem lx59 (r : List UInt8) : lxN (59 :: r) = .tok ⟨5, 0, [59], 0⟩ 1 := lone_lx (lone_of 59 (by decide +kernel)) (by decide +kernel) (by decide) (by decide) (by decide) r
theorem lx123 (r : List UInt8) : lxN (123 :: r) = .tok ⟨5, 0, [123], 0⟩ 1 := lone_lx (lone_of 123 (by decide +kernel)) (by decide +kernel) (by decide) (by decide) (by decide) r
theorem lx125 (r : List UInt8) : lxN (125 :: r) = .tok ⟨5, 0, [125], 0⟩ 1 := lone_lx (lone_of 125 (by decide +kernel)) (by decide +kernel) (by decide) (by decide) (by decide) r

end Go.Proofs.YtgdamcmfdhhheaaGreatDoor

/- How deep blocks and brackets may stand: the plain law of ParseNested. -/
namespace Go.Proofs.YtgdamcmfdhhheaaGreatDoor
open Go.RowKit Bf

theorem repN_one (c : UInt8) : ∀ k, repN k [c] = List.replicate k c
  | 0 => rfl
  | k + 1 => by simp only [repN, repN_one c k]; exact (List.replicate_succ' ..).symm

def rt (c : UInt8) (i : Nat) : Nat → List Tok
  | 0 => []
  | k + 1 => ⟨5, i, [c], 0⟩ :: rt c (i + 1) k

theorem rt_length (c : UInt8) : ∀ k i, (rt c i k).length = k
  | 0, _ => rfl
  | k + 1, i => by simp [rt, rt_length c k]

theorem rt_last (c : UInt8) : ∀ k i, rt c i (k + 1) = rt c i k ++ [⟨5, i + k, [c], 0⟩]
  | 0, i => rfl
  | k + 1, i => by
    rw [rt, rt_last c k (i + 1), rt]
    simp [Nat.add_assoc, Nat.add_comm 1 k]

theorem rt_mem {c : UInt8} : ∀ {k i : Nat} {t : Tok}, t ∈ rt c i k → t.kind = 5 ∧ t.text = [c] ∧ t.num = 0
  | 0, _, _, h => by simp [rt] at h
  | k + 1, i, t, h => by
    simp only [rt, List.mem_cons] at h
    rcases h with rfl | h
    · exact ⟨rfl, rfl, rfl⟩
    · exact rt_mem h

theorem lex_rep {c : UInt8} (hc : ∀ r, lxN (c :: r) = .tok ⟨5, 0, [c], 0⟩ 1) : ∀ (k : Nat) (rest : List UInt8) (i : Nat) (acc : List Tok), acc.length + k ≤ 16384 →
    lexFrom (List.replicate k c ++ rest).length (List.replicate k c ++ rest) i acc = lexFrom rest.length rest (i + k) (acc ++ rt c i k)
  | 0, rest, i, acc, _ => by simp [rt]
  | k + 1, rest, i, acc, h => by
    rw [List.replicate_succ, List.cons_append, List.length_cons, lexFrom, hc]
    simp only
    rw [if_neg (by omega)]
    simp only [List.drop_succ_cons, List.drop_zero]
    rw [lex_rep hc k rest (i + 1) _ (by simp; omega)]
    simp [rt, Nat.add_assoc, Nat.add_comm 1 k]

theorem run_up {n m : Nat} (h : n ≤ m) {g : G} {R : List Tok} {r : Res (List T)} (e : pRun n g R = r) (hr : r ≠ .out) : pRun m g R = r := by
  rw [pRun_mono h g R (by rw [e]; exact hr), e]

theorem tk_hd (t : Tok) (R : List Tok) : hd (t :: R) = t := rfl

theorem stmt_block {n lv i : Nat} {X : List Tok} (h : lv + 1 ≤ 200) : pRun (n + 1) (.stmt lv) (⟨5, i, [123], 0⟩ :: X) = pRun n (.block (lv + 1)) (⟨5, i, [123], 0⟩ :: X) := by
  show stmtB (pRun n) lv (⟨5, i, [123], 0⟩ :: X) = _
  unfold stmtB
  rw [if_neg (by omega)]
  rfl

theorem block_open {n lv i : Nat} {X : List Tok} : pRun (n + 1) (.block lv) (⟨5, i, [123], 0⟩ :: X) = ((pRun n (.stmts lv false) X).bind fun ks r => (need [125] r).bind fun _ r => ok1 2 i [] 0 ks r) := rfl

theorem stmts_more {n lv : Nat} {X : List Tok} (h : isTok (hd X) [125] = false) : pRun (n + 1) (.stmts lv false) X = ((pRun n (.stmt lv) X).bind fun k rem => (pRun n (.stmts lv false) rem).bind fun ks rem => .ok (k ++ ks) rem) := by
  show stmtsB (pRun n) lv false X = _
  unfold stmtsB
  simp only [Bool.false_eq_true, if_false, h]

theorem stmts_end {n lv j : Nat} {X : List Tok} : pRun (n + 1) (.stmts lv false) (⟨5, j, [125], 0⟩ :: X) = .ok [] (⟨5, j, [125], 0⟩ :: X) := rfl

theorem blocks : ∀ (k lv i j : Nat) (R : List Tok), lv + (k + 1) ≤ 200 → ∃ n t, pRun n (.stmt lv) (rt 123 i (k + 1) ++ (rt 125 j (k + 1) ++ R)) = .ok [t] R ∧ t.size = k + 1
  | 0, lv, i, j, R, h => by
    refine ⟨3, .node 2 i [] 0 [], ?_, rfl⟩
    show pRun (2 + 1) (.stmt lv) (⟨5, i, [123], 0⟩ :: ⟨5, j, [125], 0⟩ :: R) = _
    rw [stmt_block (by omega)]
    rfl
  | k + 1, lv, i, j, R, h => by
    obtain ⟨n, t, hn, ht⟩ := blocks k (lv + 1) (i + 1) j (⟨5, j + (k + 1), [125], 0⟩ :: R) (by omega)
    refine ⟨n + 1 + 1 + 1 + 1, .node 2 i [] 0 [t], ?_, by simp [T.size, sizeL, ht]⟩
    have h1 := run_up (Nat.le_succ n) hn (by simp)
    have h2 : pRun (n + 1 + 1) (.stmts (lv + 1) false) (rt 123 (i + 1) (k + 1) ++ (rt 125 j (k + 1) ++ (⟨5, j + (k + 1), [125], 0⟩ :: R))) = .ok [t] (⟨5, j + (k + 1), [125], 0⟩ :: R) := by
      rw [stmts_more rfl, h1]
      rfl
    have e : rt 123 i (k + 1 + 1) ++ (rt 125 j (k + 1 + 1) ++ R) = ⟨5, i, [123], 0⟩ :: (rt 123 (i + 1) (k + 1) ++ (rt 125 j (k + 1) ++ (⟨5, j + (k + 1), [125], 0⟩ :: R))) := by
      rw [rt_last 125 (k + 1) j, List.append_assoc]
      rfl
    rw [e, stmt_block (by omega), block_open, h2]
    rfl

theorem blocks_deep : ∀ (d lv i : Nat) (R : List Tok), lv + d = 200 → ∃ n, pRun n (.stmt lv) (rt 123 i (d + 1) ++ R) = .err 6 (i + d)
  | 0, lv, i, R, h => by
    refine ⟨1, ?_⟩
    show stmtB (pRun 0) lv (rt 123 i (0 + 1) ++ R) = _
    unfold stmtB
    rw [if_pos (by omega)]
    rfl
  | d + 1, lv, i, R, h => by
    obtain ⟨n, hn⟩ := blocks_deep d (lv + 1) (i + 1) R (by omega)
    refine ⟨n + 1 + 1 + 1, ?_⟩
    have h2 : pRun (n + 1) (.stmts (lv + 1) false) (rt 123 (i + 1) (d + 1) ++ R) = .err 6 (i + 1 + d) := by
      rw [stmts_more rfl, hn]
      rfl
    show pRun (n + 1 + 1 + 1) (.stmt lv) (⟨5, i, [123], 0⟩ :: (rt 123 (i + 1) (d + 1) ++ R)) = _
    rw [stmt_block (by omega), block_open, h2]
    simp only [Res.bind, Res.err.injEq, true_and]
    omega

/-- What no expression goes on with. -/
def Still (R : List Tok) : Prop := isTok (hd R) [46] = false ∧ isTok (hd R) [91] = false ∧ isTok (hd R) [40] = false ∧ isTok (hd R) [63] = false ∧ assignOp (hd R) = false ∧ Bf.tight (hd R) = 0

theorem assign_of_primary {n lv : Nat} {X R : List Tok} {t : T} (h : pRun n (.primary (lv + 1)) X = .ok [t] R) (hs : Still R) (hu : isUnary (hd X) = false) (hw : isTok (hd X) [110, 101, 119] = false) (hl : lv + 1 ≤ 200) :
    ∃ m, pRun m (.assign lv) X = .ok [t] R := by
  obtain ⟨s1, s2, s3, s4, s5, s6⟩ := hs
  have p1 : ∀ m, pRun (m + 1) (.postTail (lv + 1) true (hd X).pos t) R = .ok [t] R := fun m => by
    show postTailB (pRun m) (lv + 1) true (hd X).pos t R = _
    unfold postTailB
    simp [s1, s2, s3]
  have p2 : pRun (n + 1 + 1) (.postfix_ (lv + 1) true) X = .ok [t] R := by
    show postfixB (pRun (n + 1)) (lv + 1) true X = _
    unfold postfixB
    rw [run_up (Nat.le_succ n) h (by simp)]
    simp only [hw, Bool.false_eq_true, if_false, Res.bind]
    exact p1 n
  have p3 : pRun (n + 1 + 1 + 1) (.unary (lv + 1)) X = .ok [t] R := by
    show unaryB (pRun (n + 1 + 1)) (lv + 1) X = _
    unfold unaryB
    simp only [hu, Bool.false_eq_true, if_false]
    exact p2
  have p4 : pRun (n + 1 + 1 + 1 + 1) (.binary (lv + 1) 3) X = .ok [t] R := by
    show binaryB (pRun (n + 1 + 1 + 1)) (lv + 1) 3 X = _
    unfold binaryB
    rw [p3]
    show binTailB (pRun (n + 1 + 1)) (lv + 1) 3 (hd X).pos t R = _
    unfold binTailB
    rw [s6]
    rfl
  have p5 : pRun (n + 1 + 1 + 1 + 1 + 1) (.cond (lv + 1)) X = .ok [t] R := by
    show condB (pRun (n + 1 + 1 + 1 + 1)) (lv + 1) X = _
    unfold condB
    rw [p4]
    simp only [Res.bind, s4, Bool.false_eq_true, if_false]
  refine ⟨n + 1 + 1 + 1 + 1 + 1 + 1, ?_⟩
  show assignB (pRun (n + 1 + 1 + 1 + 1 + 1)) lv X = _
  unfold assignB
  rw [if_neg (by omega), p5]
  simp only [Res.bind, s5, Bool.false_eq_true, if_false]

theorem still41 (j : Nat) (R : List Tok) : Still (⟨5, j, [41], 0⟩ :: R) := ⟨rfl, rfl, rfl, rfl, rfl, by rfl⟩
theorem still59 (j : Nat) (R : List Tok) : Still (⟨5, j, [59], 0⟩ :: R) := ⟨rfl, rfl, rfl, rfl, rfl, by rfl⟩

theorem brackets : ∀ (k lv i p j : Nat) (R : List Tok), Still R → lv + 1 + k ≤ 200 → ∃ n, pRun n (.assign lv) (rt 40 i k ++ (⟨1, p, [97], 0⟩ :: (rt 41 j k ++ R))) = .ok [.node 26 p [97] 0 []] R
  | 0, lv, i, p, j, R, hs, h => by
    refine assign_of_primary (n := 1) ?_ hs rfl rfl (by omega)
    rfl
  | k + 1, lv, i, p, j, R, hs, h => by
    obtain ⟨n, hn⟩ := brackets k (lv + 1) (i + 1) p j (⟨5, j + k, [41], 0⟩ :: R) (still41 _ _) (by omega)
    have e : rt 40 i (k + 1) ++ (⟨1, p, [97], 0⟩ :: (rt 41 j (k + 1) ++ R)) = ⟨5, i, [40], 0⟩ :: (rt 40 (i + 1) k ++ (⟨1, p, [97], 0⟩ :: (rt 41 j k ++ (⟨5, j + k, [41], 0⟩ :: R)))) := by
      rw [rt_last 41 k j, List.append_assoc]
      rfl
    rw [e]
    refine assign_of_primary (n := n + 1) ?_ hs rfl rfl (by omega)
    show ((pRun n (.assign (lv + 1)) (rt 40 (i + 1) k ++ (⟨1, p, [97], 0⟩ :: (rt 41 j k ++ (⟨5, j + k, [41], 0⟩ :: R))))).bind fun k r => (need [41] r).bind fun _ r => .ok k r) = _
    rw [hn]
    rfl

theorem assign_err {n lv : Nat} {X : List Tok} {e p : Nat} (h : pRun n (.primary (lv + 1)) X = .err e p) (hu : isUnary (hd X) = false) (hw : isTok (hd X) [110, 101, 119] = false) (hl : lv + 1 ≤ 200) :
    ∃ m, pRun m (.assign lv) X = .err e p := by
  have p2 : pRun (n + 1) (.postfix_ (lv + 1) true) X = .err e p := by
    show postfixB (pRun n) (lv + 1) true X = _
    unfold postfixB
    rw [h]
    simp only [hw, Bool.false_eq_true, if_false, Res.bind]
  have p3 : pRun (n + 1 + 1) (.unary (lv + 1)) X = .err e p := by
    show unaryB (pRun (n + 1)) (lv + 1) X = _
    unfold unaryB
    simp only [hu, Bool.false_eq_true, if_false]
    exact p2
  have p4 : pRun (n + 1 + 1 + 1) (.binary (lv + 1) 3) X = .err e p := by
    show binaryB (pRun (n + 1 + 1)) (lv + 1) 3 X = _
    unfold binaryB
    rw [p3]
    rfl
  have p5 : pRun (n + 1 + 1 + 1 + 1) (.cond (lv + 1)) X = .err e p := by
    show condB (pRun (n + 1 + 1 + 1)) (lv + 1) X = _
    unfold condB
    rw [p4]
    rfl
  refine ⟨n + 1 + 1 + 1 + 1 + 1, ?_⟩
  show assignB (pRun (n + 1 + 1 + 1 + 1)) lv X = _
  unfold assignB
  rw [if_neg (by omega), p5]
  rfl

theorem brackets_deep : ∀ (d lv i : Nat) (X : List Tok), lv + d = 200 → ∃ n, pRun n (.assign lv) (rt 40 i d ++ X) = .err 6 (hd X).pos
  | 0, lv, i, X, h => by
    refine ⟨1, ?_⟩
    show assignB (pRun 0) lv X = _
    unfold assignB
    rw [if_pos (by omega)]
    rfl
  | d + 1, lv, i, X, h => by
    obtain ⟨n, hn⟩ := brackets_deep d (lv + 1) (i + 1) X (by omega)
    show ∃ n, pRun n (.assign lv) (⟨5, i, [40], 0⟩ :: (rt 40 (i + 1) d ++ X)) = _
    refine assign_err (n := n + 1) ?_ rfl rfl (by omega)
    show ((pRun n (.assign (lv + 1)) (rt 40 (i + 1) d ++ X)).bind fun k r => (need [41] r).bind fun _ r => .ok k r) = _
    rw [hn]
    rfl

end Go.Proofs.YtgdamcmfdhhheaaGreatDoor

/- What the two parses of ParseNested answer: plain Lean. -/
namespace Go.Proofs.YtgdamcmfdhhheaaGreatDoor
open Go.RowKit Bf

theorem scriptR_any {n : Nat} {toks : List Tok} {r : Res (List T)} (h : pRun n (.stmts 0 true) toks = r) (hr : r ≠ .out) : scriptR toks = r := by
  have h1 := pRun_mono (Nat.le_max_left n (40 * toks.length + 20)) (.stmts 0 true) toks (by rw [h]; exact hr)
  have h2 := pRun_mono (Nat.le_max_right n (40 * toks.length + 20)) (.stmts 0 true) toks (script_fuel toks)
  unfold Go.Proofs.YtgdamcmfdhhheaaGreatDoor.scriptR
  rw [← h2, h1, h]

theorem parseR_bad {s : List UInt8} {l : List Tok} {en p : Nat} (hl : tokens s = .ok l) (hm : ∀ x ∈ l.dropLast, tokOk x = true) (hs : Go.Proofs.YtgdamcmfdhhheaaGreatDoor.scriptR l = .err en p) : parseR s = .error (p, en) := by
  unfold parseR
  rw [hl]
  simp only
  unfold treeR
  rw [if_pos (by unfold mayE; rw [if_pos (List.all_eq_true.2 hm)]), hs]

theorem top_more {n : Nat} {X : List Tok} (h : ((hd X).kind == 0) = false) : pRun (n + 1) (.stmts 0 true) X = ((pRun n (.stmt 0) X).bind fun k rem => (pRun n (.stmts 0 true) rem).bind fun ks rem => .ok (k ++ ks) rem) := by
  show stmtsB (pRun n) 0 true X = _
  unfold stmtsB
  simp only [if_true, h, Bool.false_eq_true, if_false]

theorem top_end {n p : Nat} {X : List Tok} : pRun (n + 1) (.stmts 0 true) (⟨0, p, [], 0⟩ :: X) = .ok [] (⟨0, p, [], 0⟩ :: X) := rfl

theorem rt_ok {c : UInt8} (hs : sign [c] = true) {k i : Nat} : ∀ x ∈ rt c i k, tokOk x = true := by
  intro x hx
  obtain ⟨h1, h2, h3⟩ := rt_mem hx
  have h0 : eqZ 0 = true := eqZ0
  unfold tokOk
  rw [h1, h2, h3]
  simp [hs, h0]

theorem s123 : sign [123] = true := by decide +kernel
theorem s125 : sign [125] = true := by decide +kernel
theorem s40 : sign [40] = true := by decide +kernel
theorem s41 : sign [41] = true := by decide +kernel
theorem s59 : sign [59] = true := by decide +kernel
theorem w97 : word [97] = false := by decide +kernel

theorem braces_tokens (k : Nat) (h : k ≤ 400) : tokens (bracesT k) = .ok (rt 123 0 k ++ rt 125 k k ++ [⟨0, (bracesT k).length, [], 0⟩]) := by
  unfold tokens
  have e : bracesT k = List.replicate k 123 ++ (List.replicate k 125 ++ []) := by simp [bracesT, repN_one]
  have h1 : lexFrom (bracesT k).length (bracesT k) 0 [] = .ok (rt 123 0 k ++ rt 125 k k) := by
    rw [e, lex_rep lx123 k _ 0 [] (by simp; omega), lex_rep lx125 k [] _ _ (by simp [rt_length]; omega)]
    simp [lexFrom]
  rw [h1]

theorem tok97 (r : List UInt8) (b : UInt8) (hb : isNm b = false) : lxN (97 :: b :: r) = .tok ⟨1, 0, [97], 0⟩ 1 := by
  have hn : nameLen (97 :: b :: r) = 1 := by
    unfold nameLen
    rw [List.takeWhile_cons, if_pos (by decide), List.takeWhile_cons, if_neg (by rw [hb]; decide)]
    rfl
  unfold lxN
  have hh : (97 :: b :: r).headD 0 = (97 : UInt8) := rfl
  rw [hh, if_neg (by decide), if_neg (by intro h; exact absurd h.1 (by decide)), if_neg (by intro h; exact absurd h.1 (by decide))]
  unfold tokN
  rw [hh, if_pos (by decide), hn, if_neg (by decide)]
  simp [w97]

theorem brackets_tokens (k : Nat) (h : k ≤ 400) : tokens (bracketsT k) = .ok (rt 40 0 k ++ (⟨1, k, [97], 0⟩ :: (rt 41 (k + 1) k ++ [⟨5, k + 1 + k, [59], 0⟩, ⟨0, (bracketsT k).length, [], 0⟩]))) := by
  unfold tokens
  have e : bracketsT k = List.replicate k 40 ++ (97 :: (List.replicate k 41 ++ [59])) := by simp [bracketsT, repN_one]
  have h1 : lexFrom (bracketsT k).length (bracketsT k) 0 [] = .ok (rt 40 0 k ++ (⟨1, k, [97], 0⟩ :: (rt 41 (k + 1) k ++ [⟨5, k + 1 + k, [59], 0⟩]))) := by
    rw [e, lex_rep lx40 k _ 0 [] (by simp; omega)]
    have h2 : lxN (97 :: (List.replicate k 41 ++ [59])) = .tok ⟨1, 0, [97], 0⟩ 1 := by
      cases k with
      | zero => exact tok97 [] 59 (by decide)
      | succ k => exact tok97 _ 41 (by decide)
    rw [List.length_cons, lexFrom, h2]
    simp only
    rw [if_neg (by simp [rt_length]; omega)]
    simp only [List.drop_succ_cons, List.drop_zero]
    rw [lex_rep lx41 k [59] _ _ (by simp [rt_length]; omega)]
    show lexFrom (0 + 1) [59] _ _ = _
    rw [lexFrom, lx59]
    simp only
    rw [if_neg (by simp [rt_length]; omega)]
    simp [lexFrom]
  rw [h1]
  simp

theorem nested_is (k : Nat) (hk : k ≤ 400) : NestedIs k := by
  have ht := braces_tokens k hk
  have hu := brackets_tokens k hk
  generalize (bracesT k).length = p at ht
  generalize (bracketsT k).length = p2 at hu
  have hok : ∀ x ∈ (rt 123 0 k ++ rt 125 k k ++ [(⟨0, p, [], 0⟩ : Tok)]).dropLast, tokOk x = true := by
    intro x hx
    rw [List.dropLast_concat] at hx
    rcases List.mem_append.1 hx with hx | hx
    · exact rt_ok s123 x hx
    · exact rt_ok s125 x hx
  have hok2 : ∀ x ∈ (rt 40 0 k ++ (⟨1, k, [97], 0⟩ :: (rt 41 (k + 1) k ++ [(⟨5, k + 1 + k, [59], 0⟩ : Tok), ⟨0, p2, [], 0⟩]))).dropLast, tokOk x = true := by
    intro x hx
    have e : rt 40 0 k ++ (⟨1, k, [97], 0⟩ :: (rt 41 (k + 1) k ++ [(⟨5, k + 1 + k, [59], 0⟩ : Tok), ⟨0, p2, [], 0⟩])) = (rt 40 0 k ++ (⟨1, k, [97], 0⟩ :: (rt 41 (k + 1) k ++ [(⟨5, k + 1 + k, [59], 0⟩ : Tok)]))) ++ [⟨0, p2, [], 0⟩] := by simp
    rw [e, List.dropLast_concat] at hx
    simp only [List.mem_append, List.mem_cons, List.mem_nil_iff, or_false] at hx
    have h0 : eqZ 0 = true := eqZ0
    rcases hx with hx | rfl | hx | rfl
    · exact rt_ok s40 x hx
    · have hb : (bKind 97 == 1) = true := by decide
      have hn : nameLen [97] = 1 := by decide
      simp [tokOk, h0, w97, hn]
      decide
    · exact rt_ok s41 x hx
    · simp [tokOk, h0, s59]
  refine ⟨fun h => ?_, fun h => ?_, fun h => ?_, fun h => ?_⟩
  · cases k with
    | zero =>
      have hs : Go.Proofs.YtgdamcmfdhhheaaGreatDoor.scriptR (rt 123 0 0 ++ rt 125 0 0 ++ [⟨0, p, [], 0⟩]) = .ok [] [⟨0, p, [], 0⟩] := scriptR_any (n := 1) rfl (by simp)
      exact ⟨_, parseR_mk ht hok hs (show (1 : Nat) ≤ 16384 by decide), rfl⟩
    | succ k =>
      obtain ⟨n, t, hn, hsz⟩ := blocks k 0 0 (k + 1) [⟨0, p, [], 0⟩] (by omega)
      have hr : pRun (n + 1 + 1) (.stmts 0 true) (rt 123 0 (k + 1) ++ rt 125 (k + 1) (k + 1) ++ [⟨0, p, [], 0⟩]) = .ok [t] [⟨0, p, [], 0⟩] := by
        rw [List.append_assoc, top_more rfl, run_up (Nat.le_succ n) hn (by simp)]
        rfl
      have hs := scriptR_any hr (by simp)
      have hsz2 : (rootT (rt 123 0 (k + 1) ++ rt 125 (k + 1) (k + 1) ++ [⟨0, p, [], 0⟩]) [t]).size = k + 1 + 1 := by
        show sizeL [t] + 1 = _
        simp [sizeL, hsz]
      exact ⟨_, parseR_mk ht hok hs (by rw [hsz2]; omega), hsz2⟩
  · obtain ⟨d, rfl⟩ : ∃ d, k = 200 + 1 + d := ⟨k - 201, by omega⟩
    have e : ∀ (a b i : Nat), rt 123 i (a + b) = rt 123 i a ++ rt 123 (i + a) b := by
      intro a
      induction a with
      | zero => intro b i; simp [rt]
      | succ a ih => intro b i; rw [show a + 1 + b = (a + b) + 1 by omega, rt, ih, rt]; simp [Nat.add_assoc, Nat.add_comm 1 a]
    obtain ⟨n, hn⟩ := blocks_deep 200 0 0 (rt 123 (0 + (200 + 1)) d ++ rt 125 (200 + 1 + d) (200 + 1 + d) ++ [⟨0, p, [], 0⟩]) (by omega)
    have hr : pRun (n + 1) (.stmts 0 true) (rt 123 0 (200 + 1 + d) ++ rt 125 (200 + 1 + d) (200 + 1 + d) ++ [⟨0, p, [], 0⟩]) = .err 6 200 := by
      rw [e, List.append_assoc, List.append_assoc, ← List.append_assoc (rt 123 (0 + (200 + 1)) d), top_more rfl, hn]
      rfl
    exact parseR_bad ht hok (scriptR_any hr (by simp))
  · obtain ⟨n, hn⟩ := brackets k 1 0 k (k + 1) [⟨5, k + 1 + k, [59], 0⟩, ⟨0, p2, [], 0⟩] (still59 _ _) (by omega)
    have hst : ∃ X, rt 40 0 k ++ (⟨1, k, [97], 0⟩ :: (rt 41 (k + 1) k ++ [(⟨5, k + 1 + k, [59], 0⟩ : Tok), ⟨0, p2, [], 0⟩])) = X ∧ isTok (hd X) [123] = false ∧ isTok (hd X) [59] = false ∧ ((hd X).kind == 2) = false ∧ ((hd X).kind == 0) = false := by
      refine ⟨_, rfl, ?_⟩
      cases k <;> exact ⟨rfl, rfl, rfl, rfl⟩
    obtain ⟨X, hX, x1, x2, x3, x4⟩ := hst
    rw [hX] at hn hu hok2
    have hr : pRun (n + 1 + 1) (.stmts 0 true) X = .ok [.node 6 (hd X).pos [] 0 [.node 26 k [97] 0 []]] [⟨0, p2, [], 0⟩] := by
      rw [top_more x4]
      have : pRun (n + 1) (.stmt 0) X = .ok [.node 6 (hd X).pos [] 0 [.node 26 k [97] 0 []]] [⟨0, p2, [], 0⟩] := by
        show stmtB (pRun n) 0 X = _
        unfold stmtB
        simp only [x1, x2, x3, Bool.not_false, if_true, Bool.false_eq_true, if_false]
        rw [if_neg (by decide)]
        unfold exprS
        rw [show (0 + 1) = 1 from rfl, hn]
        rfl
      rw [this]
      rfl
    exact ⟨_, parseR_mk hu hok2 (scriptR_any hr (by simp)) (show (3 : Nat) ≤ 16384 by decide), rfl⟩
  · obtain ⟨d, rfl⟩ : ∃ d, k = 199 + d := ⟨k - 199, by omega⟩
    have e : ∀ (a b i : Nat), rt 40 i (a + b) = rt 40 i a ++ rt 40 (i + a) b := by
      intro a
      induction a with
      | zero => intro b i; simp [rt]
      | succ a ih => intro b i; rw [show a + 1 + b = (a + b) + 1 by omega, rt, ih, rt]; simp [Nat.add_assoc, Nat.add_comm 1 a]
    have hex : ∃ Y, rt 40 0 (199 + d) ++ (⟨1, 199 + d, [97], 0⟩ :: (rt 41 (199 + d + 1) (199 + d) ++ [(⟨5, 199 + d + 1 + (199 + d), [59], 0⟩ : Tok), ⟨0, p2, [], 0⟩])) = rt 40 0 199 ++ Y ∧ (hd Y).pos = 199 := by
      refine ⟨rt 40 (0 + 199) d ++ (⟨1, 199 + d, [97], 0⟩ :: (rt 41 (199 + d + 1) (199 + d) ++ [(⟨5, 199 + d + 1 + (199 + d), [59], 0⟩ : Tok), ⟨0, p2, [], 0⟩])), by rw [e, List.append_assoc], ?_⟩
      cases d <;> rfl
    obtain ⟨Y, hY, hp⟩ := hex
    rw [hY] at hu hok2
    obtain ⟨n, hn⟩ := brackets_deep 199 1 0 Y (by omega)
    rw [hp] at hn
    have hr : pRun (n + 1 + 1) (.stmts 0 true) (rt 40 0 199 ++ Y) = .err 6 199 := by
      rw [top_more rfl]
      have : pRun (n + 1) (.stmt 0) (rt 40 0 199 ++ Y) = .err 6 199 := by
        show stmtB (pRun n) 0 (rt 40 0 199 ++ Y) = _
        unfold stmtB
        rw [if_neg (by decide)]
        show exprS (pRun n) (0 + 1) _ (rt 40 0 199 ++ Y) = _
        unfold exprS
        rw [show (0 + 1) = 1 from rfl, hn]
        rfl
      rw [this]
      rfl
    exact parseR_bad hu hok2 (scriptR_any hr (by simp))

end Go.Proofs.YtgdamcmfdhhheaaGreatDoor
