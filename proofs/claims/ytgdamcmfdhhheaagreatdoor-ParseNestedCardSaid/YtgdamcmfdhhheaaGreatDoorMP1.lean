/- Enough fuel always answers, and what is left is shorter: plain Lean. -/
import Derived.Test.YtgdamcmfdhhheaaGreatDoorMA1
import Derived.Test.YtgdamcmfdhhheaaGreatDoorML3
set_option linter.all false

namespace Bf

def Good {α : Type} (L k : Nat) (r : Res α) : Prop := r ≠ .out ∧ ∀ v R', r = .ok v R' → R'.length + k ≤ L

section
variable {α β : Type} {L k i j : Nat}
theorem Good.err (e p : Nat) : Good L k (.err e p : Res α) := ⟨by simp, by simp⟩
theorem Good.fail (e : Nat) (R : List Tok) : Good L k (fail e R : Res α) := ⟨by simp [Bf.fail], by simp [Bf.fail]⟩
theorem Good.ok {a : α} {R : List Tok} (h : R.length + k ≤ L) : Good L k (.ok a R) := ⟨by simp, by rintro v R' ⟨⟩; exact h⟩
theorem Good.ok1 {kind pos : Nat} {text : List UInt8} {num : Nat} {kids : List T} {R : List Tok} (h : R.length + k ≤ L) : Good L k (ok1 kind pos text num kids R) := Good.ok h
theorem Good.bind {r : Res α} {f : α → List Tok → Res β} (h : Good L i r) (g : ∀ a R1, R1.length + i ≤ L → Good R1.length j (f a R1)) (hk : k ≤ i + j) : Good L k (r.bind f) := by
  cases r with
  | ok a R1 =>
    have h1 := h.2 a R1 rfl
    obtain ⟨g1, g2⟩ := g a R1 h1
    exact ⟨g1, fun v R' e => by have := g2 v R' e; omega⟩
  | err e p => exact Good.err e p
  | out => exact absurd rfl h.1
theorem Good.ite {c : Prop} [Decidable c] {a b : Res α} (h1 : c → Good L k a) (h2 : ¬ c → Good L k b) : Good L k (if c then a else b) := by
  split
  · exact h1 ‹_›
  · exact h2 ‹_›
theorem Good.mono {r : Res α} {L' k' : Nat} (h : Good L k r) (h1 : L + k' ≤ L' + k) : Good L' k' r := ⟨h.1, fun v R' e => by have := h.2 v R' e; omega⟩
end

theorem tail_len {R : List Tok} (h : (hd R).kind ≠ 0) : R.tail.length + 1 = R.length := by
  cases R with
  | nil => exact absurd rfl h
  | cons t R => rfl
theorem isTok_kind {t : Tok} {s : List UInt8} (h : isTok t s = true) : t.kind ≠ 0 := by
  unfold isTok at h
  intro e
  rw [e] at h
  simp at h
theorem tok_len {R : List Tok} {s : List UInt8} (h : isTok (hd R) s = true) : R.tail.length + 1 = R.length := tail_len (isTok_kind h)
theorem Good.need (s : List UInt8) (R : List Tok) : Good R.length 1 (need s R) := Good.ite (fun h => Good.ok (by have := tok_len h; omega)) (fun _ => Good.fail _ _)
theorem Good.name (R : List Tok) : Good R.length 1 (name R) := Good.ite (fun h => Good.ok (by have := tail_len (R := R) (by simp at h; omega); omega)) (fun _ => Good.fail _ _)

theorem kind_len {R : List Tok} {j : Nat} (h : ((hd R).kind == j) = true) (hj : j ≠ 0) : R.tail.length + 1 = R.length := tail_len (by simp at h; omega)
theorem assignOp_len {R : List Tok} (h : assignOp (hd R) = true) : R.tail.length + 1 = R.length := tail_len (by unfold assignOp at h; simp at h; omega)
theorem unary_len {R : List Tok} (h : isUnary (hd R) = true) : R.tail.length + 1 = R.length := by
  unfold isUnary at h
  obtain ⟨s, _, hs⟩ := List.any_eq_true.1 h
  exact tok_len hs
theorem tight_len {R : List Tok} {least : Nat} (h : ¬ (tight (hd R) == 0 || decide (tight (hd R) < least)) = true) : R.tail.length + 1 = R.length := by
  refine tail_len fun e => h ?_
  have : tight (hd R) = 0 := by
    unfold tight
    rw [e]
    simp
  simp [this]

/-- Fuel enough, part by part. -/
structure Ih (n : Nat) : Prop where
  stmts : ∀ lv top R, 40 * R.length + 20 ≤ n → Good R.length 0 (pRun n (.stmts lv top) R)
  stmt : ∀ lv R, 40 * R.length + 19 ≤ n → Good R.length 1 (pRun n (.stmt lv) R)
  block : ∀ lv R, 40 * R.length + 1 ≤ n → Good R.length 1 (pRun n (.block lv) R)
  declared : ∀ lv kind pos value R, 40 * R.length + 1 ≤ n → Good R.length 1 (pRun n (.declared lv kind pos value) R)
  rest : ∀ lv R, 40 * R.length + 1 ≤ n → Good R.length 1 (pRun n (.rest lv) R)
  tested : ∀ lv R, 40 * R.length + 1 ≤ n → Good R.length 1 (pRun n (.tested lv) R)
  body : ∀ lv R, 40 * R.length + 20 ≤ n → Good R.length 1 (pRun n (.body lv) R)
  loop : ∀ lv pos R, 40 * R.length + 1 ≤ n → Good R.length 1 (pRun n (.loop lv pos) R)
  jump : ∀ lv kind pos value R, 40 * R.length + 11 ≤ n → Good R.length 1 (pRun n (.jump lv kind pos value) R)
  try_ : ∀ lv pos R, 40 * R.length + 2 ≤ n → Good R.length 1 (pRun n (.try_ lv pos) R)
  assign : ∀ lv R, 40 * R.length + 10 ≤ n → Good R.length 1 (pRun n (.assign lv) R)
  cond : ∀ lv R, 40 * R.length + 9 ≤ n → Good R.length 1 (pRun n (.cond lv) R)
  binary : ∀ lv least R, 40 * R.length + 8 ≤ n → Good R.length 1 (pRun n (.binary lv least) R)
  binTail : ∀ lv least pos k R, 40 * R.length + 1 ≤ n → Good R.length 0 (pRun n (.binTail lv least pos k) R)
  unary : ∀ lv R, 40 * R.length + 7 ≤ n → Good R.length 1 (pRun n (.unary lv) R)
  postfix_ : ∀ lv calls R, 40 * R.length + 6 ≤ n → Good R.length 1 (pRun n (.postfix_ lv calls) R)
  postTail : ∀ lv calls pos k R, 40 * R.length + 1 ≤ n → Good R.length 0 (pRun n (.postTail lv calls pos k) R)
  list : ∀ lv e most one m R, 40 * R.length + 13 ≤ n → Good R.length 1 (pRun n (.list lv e most one m) R)
  param : ∀ lv R, 40 * R.length + 1 ≤ n → Good R.length 1 (pRun n (.param lv) R)
  primary : ∀ lv R, 40 * R.length + 4 ≤ n → Good R.length 1 (pRun n (.primary lv) R)
  pair : ∀ lv R, 40 * R.length + 12 ≤ n → Good R.length 1 (pRun n (.pair lv) R)
  key : ∀ lv R, 40 * R.length + 5 ≤ n → Good R.length 1 (pRun n (.key lv) R)

theorem ih_zero : Ih 0 where
  stmts := fun _ _ _ h => by omega
  stmt := fun _ _ h => by omega
  block := fun _ _ h => by omega
  declared := fun _ _ _ _ _ h => by omega
  rest := fun _ _ h => by omega
  tested := fun _ _ h => by omega
  body := fun _ _ h => by omega
  loop := fun _ _ _ h => by omega
  jump := fun _ _ _ _ _ h => by omega
  try_ := fun _ _ _ h => by omega
  assign := fun _ _ h => by omega
  cond := fun _ _ h => by omega
  binary := fun _ _ _ h => by omega
  binTail := fun _ _ _ _ _ h => by omega
  unary := fun _ _ h => by omega
  postfix_ := fun _ _ _ h => by omega
  postTail := fun _ _ _ _ _ h => by omega
  list := fun _ _ _ _ _ _ h => by omega
  param := fun _ _ h => by omega
  primary := fun _ _ h => by omega
  pair := fun _ _ h => by omega
  key := fun _ _ h => by omega

section
variable {n : Nat} (ih : Ih n)
include ih

theorem f_stmts (lv top) (R : List Tok) (h : 40 * R.length + 20 ≤ n + 1) : Good R.length 0 (stmtsB (pRun n) lv top R) :=
  Good.ite (fun _ => Good.ok (by omega)) fun _ => Good.bind (ih.stmt lv R (by omega)) (fun a R1 h1 => Good.bind (j := 0) (k := 0) (ih.stmts lv top R1 (by omega)) (fun b R2 h2 => Good.ok (by omega)) (by omega)) (by omega)

theorem f_exprS (lv pos) (R : List Tok) (h : 40 * R.length + 10 ≤ n) : Good R.length 1 (exprS (pRun n) lv pos R) :=
  Good.bind (j := 1) (ih.assign lv R h) (fun a R1 h1 => Good.bind (j := 0) (Good.need _ R1) (fun b R2 h2 => Good.ok1 (by omega)) (by omega)) (by omega)

theorem f_block (lv) (R : List Tok) (h : 40 * R.length + 1 ≤ n + 1) : Good R.length 1 (blockB (pRun n) lv R) :=
  Good.bind (j := 0) (Good.need _ R) (fun _ R0 h0 => Good.bind (j := 0) (ih.stmts lv false R0 (by omega)) (fun a R1 h1 => Good.bind (j := 0) (Good.need _ R1) (fun b R2 h2 => Good.ok1 (by omega)) (by omega)) (by omega)) (by omega)

theorem f_declared (lv kind pos value) (R : List Tok) (h : 40 * R.length + 1 ≤ n + 1) : Good R.length 1 (declaredB (pRun n) lv kind pos value R) :=
  Good.bind (j := 0) (Good.name R) (fun _ R0 h0 => Good.bind (i := 0) (j := 0)
    (Good.ite (fun _ => Good.bind (j := 0) (Good.need _ R0) (fun _ R1 h1 => (ih.assign lv R1 (by omega)).mono (by omega)) (by omega)) (fun _ => Good.ok (by omega)))
    (fun a R1 h1 => Good.bind (j := 0) (Good.need _ R1) (fun b R2 h2 => Good.ok1 (by omega)) (by omega)) (by omega)) (by omega)

theorem f_rest (lv) (R : List Tok) (h : 40 * R.length + 1 ≤ n + 1) : Good R.length 1 (restB (pRun n) lv R) :=
  Good.bind (j := 0) (Good.need _ R) (fun _ R0 h0 => Good.bind (j := 0) (ih.list lv _ 64 .param 0 R0 (by omega)) (fun a R1 h1 => Good.bind (j := 0) (ih.block lv R1 (by omega)) (fun b R2 h2 => Good.ok (by omega)) (by omega)) (by omega)) (by omega)

theorem f_tested (lv) (R : List Tok) (h : 40 * R.length + 1 ≤ n + 1) : Good R.length 1 (testedB (pRun n) lv R) :=
  Good.bind (j := 0) (Good.need _ R) (fun _ R0 h0 => Good.bind (j := 0) (ih.assign lv R0 (by omega)) (fun a R1 h1 => Good.bind (j := 0) (Good.need _ R1) (fun _ R2 h2 => Good.bind (j := 0) (ih.body lv R2 (by omega)) (fun b R3 h3 => Good.ok (by omega)) (by omega)) (by omega)) (by omega)) (by omega)

theorem f_body (lv) (R : List Tok) (h : 40 * R.length + 20 ≤ n + 1) : Good R.length 1 (bodyB (pRun n) lv R) :=
  Good.ite (fun _ => Good.ite (fun _ => Good.fail _ _) (fun _ => Good.fail _ _)) (fun _ => ih.stmt lv R (by omega))

theorem f_loop (lv pos) (R : List Tok) (h : 40 * R.length + 1 ≤ n + 1) : Good R.length 1 (loopB (pRun n) lv pos R) :=
  Good.bind (j := 0) (Good.need _ R) (fun _ R0 h0 => Good.bind (i := 1) (j := 0)
    (Good.ite (fun e => Good.ok (by have := tok_len e; omega)) (fun _ => Good.bind (j := 0) (Good.need _ R0) (fun _ R1 h1 => Good.ok (by omega)) (by omega)))
    (fun kind R1 h1 => Good.bind (j := 0) (Good.name R1) (fun nm R2 h2 => Good.bind (i := 1) (j := 0)
      (Good.ite (fun e => Good.ok (by have := tok_len e; omega)) (fun _ => Good.ite (fun e => Good.ok (by have := tail_len (R := R2) (by unfold isOf at e; simp at e; omega); omega)) (fun _ => Good.fail _ _)))
      (fun out R3 h3 => Good.bind (j := 0) (ih.assign lv R3 (by omega)) (fun v R4 h4 => Good.bind (j := 0) (Good.need _ R4) (fun _ R5 h5 => Good.bind (j := 0) (ih.body lv R5 (by omega)) (fun b R6 h6 => Good.ok1 (by omega)) (by omega)) (by omega)) (by omega)) (by omega)) (by omega)) (by omega)) (by omega)

theorem f_jump (lv kind pos value) (R : List Tok) (h : 40 * R.length + 11 ≤ n + 1) : Good R.length 1 (jumpB (pRun n) lv kind pos value R) :=
  Good.bind (i := 0) (j := 1) (Good.ite (fun _ => (ih.assign lv R (by omega)).mono (by omega)) (fun _ => Good.ok (by omega))) (fun a R1 h1 => Good.bind (j := 0) (Good.need _ R1) (fun b R2 h2 => Good.ok1 (by omega)) (by omega)) (by omega)

theorem f_try (lv pos) (R : List Tok) (h : 40 * R.length + 2 ≤ n + 1) : Good R.length 1 (tryB (pRun n) lv pos R) :=
  Good.bind (j := 0) (ih.block lv R (by omega)) (fun b R0 h0 => Good.bind (i := 0) (j := 0)
    (Good.ite (fun e => (Good.bind (j := 0) (k := 0) (Good.need _ R0.tail) (fun _ R1 h1 => Good.bind (j := 0) (Good.name R1) (fun _ R2 h2 => Good.bind (j := 0) (Good.need _ R2) (fun _ R3 h3 => Good.bind (j := 0) (ih.block lv R3 (by have := tok_len e; omega)) (fun c R4 h4 => Good.ok1 (by have := tok_len e; omega)) (by omega)) (by omega)) (by omega)) (by omega)).mono (by have := tok_len e; omega)) (fun _ => Good.ok (by omega)))
    (fun c R1 h1 => Good.bind (i := 0) (j := 0)
      (Good.ite (fun e => (Good.bind (j := 0) (k := 0) (ih.block lv R1.tail (by have := tok_len e; omega)) (fun f R2 h2 => Good.ok1 (by omega)) (by omega)).mono (by have := tok_len e; omega)) (fun _ => Good.ok (by omega)))
      (fun f R2 h2 => Good.ite (fun _ => Good.fail _ _) (fun _ => Good.ok1 (by omega))) (by omega)) (by omega)) (by omega)

theorem f_assign (lv) (R : List Tok) (h : 40 * R.length + 10 ≤ n + 1) : Good R.length 1 (assignB (pRun n) lv R) :=
  Good.ite (fun _ => Good.fail _ _) fun _ => Good.bind (j := 0) (ih.cond _ R (by omega)) (fun k R0 h0 => Good.ite
    (fun e => Good.ite (fun _ => Good.fail _ _) fun _ => (Good.bind (j := 0) (k := 0) (ih.assign _ R0.tail (by have := assignOp_len e; omega)) (fun a R1 h1 => Good.ok1 (by omega)) (by omega)).mono (by have := assignOp_len e; omega))
    (fun _ => Good.ok (by omega))) (by omega)

theorem f_cond (lv) (R : List Tok) (h : 40 * R.length + 9 ≤ n + 1) : Good R.length 1 (condB (pRun n) lv R) :=
  Good.bind (j := 0) (ih.binary lv 3 R (by omega)) (fun k R0 h0 => Good.ite
    (fun e => (Good.bind (j := 0) (k := 0) (ih.assign lv R0.tail (by have := tok_len e; omega)) (fun a R1 h1 => Good.bind (j := 0) (Good.need _ R1) (fun _ R2 h2 => Good.bind (j := 0) (ih.assign lv R2 (by have := tok_len e; omega)) (fun b R3 h3 => Good.ok1 (by omega)) (by omega)) (by omega)) (by omega)).mono (by have := tok_len e; omega))
    (fun _ => Good.ok (by omega))) (by omega)

theorem f_binary (lv least) (R : List Tok) (h : 40 * R.length + 8 ≤ n + 1) : Good R.length 1 (binaryB (pRun n) lv least R) :=
  Good.bind (j := 0) (ih.unary lv R (by omega)) (fun k R0 h0 => ih.binTail lv least _ _ R0 (by omega)) (by omega)

theorem f_binTail (lv least pos k) (R : List Tok) (h : 40 * R.length + 1 ≤ n + 1) : Good R.length 0 (binTailB (pRun n) lv least pos k R) :=
  Good.ite (fun _ => Good.ok (by omega)) fun e => (Good.bind (j := 0) (k := 0) (ih.binary lv _ R.tail (by have := tight_len e; omega)) (fun b R1 h1 => ih.binTail lv least pos _ R1 (by have := tight_len e; omega)) (by omega)).mono (by have := tight_len e; omega)

theorem f_unary (lv) (R : List Tok) (h : 40 * R.length + 7 ≤ n + 1) : Good R.length 1 (unaryB (pRun n) lv R) :=
  Good.ite (fun e => Good.ite (fun _ => Good.fail _ _) fun _ => (Good.bind (j := 0) (k := 0) (ih.unary _ R.tail (by have := unary_len e; omega)) (fun k R1 h1 => Good.ok1 (by omega)) (by omega)).mono (by have := unary_len e; omega)) (fun _ => ih.postfix_ lv true R (by omega))

theorem f_postfix (lv calls) (R : List Tok) (h : 40 * R.length + 6 ≤ n + 1) : Good R.length 1 (postfixB (pRun n) lv calls R) :=
  Good.bind (i := 1) (j := 0) (Good.ite
    (fun e => Good.ite (fun _ => Good.fail _ _) fun _ => (Good.bind (j := 0) (k := 0) (ih.postfix_ _ false R.tail (by have := tok_len e; omega)) (fun k R1 h1 => Good.bind (j := 0) (Good.need _ R1) (fun _ R2 h2 => Good.bind (j := 0) (ih.list lv _ 64 .assign 0 R2 (by have := tok_len e; omega)) (fun ks R3 h3 => Good.ok1 (by omega)) (by omega)) (by omega)) (by omega)).mono (by have := tok_len e; omega))
    (fun _ => ih.primary lv R (by omega)))
    (fun k R0 h0 => ih.postTail lv calls _ _ R0 (by omega)) (by omega)

theorem f_postTail (lv calls pos k) (R : List Tok) (h : 40 * R.length + 1 ≤ n + 1) : Good R.length 0 (postTailB (pRun n) lv calls pos k R) :=
  Good.ite (fun e => Good.ite (fun _ => Good.fail _ _) fun _ => (ih.postTail lv calls pos _ R.tail.tail (by have := tok_len e; simp at this ⊢; omega)).mono (by have := tok_len e; simp at this ⊢; omega))
    fun _ => Good.ite (fun e => (Good.bind (j := 0) (k := 0) (ih.assign lv R.tail (by have := tok_len e; omega)) (fun v R1 h1 => Good.bind (j := 0) (Good.need _ R1) (fun _ R2 h2 => ih.postTail lv calls pos _ R2 (by have := tok_len e; omega)) (by omega)) (by omega)).mono (by have := tok_len e; omega))
    fun _ => Good.ite (fun e => have e' : isTok (hd R) [40] = true := by simp at e; exact e.2
      (Good.bind (j := 0) (k := 0) (ih.list lv _ 64 .assign 0 R.tail (by have := tok_len e'; omega)) (fun ks R1 h1 => ih.postTail lv calls pos _ R1 (by have := tok_len e'; omega)) (by omega)).mono (by have := tok_len e'; omega))
    fun _ => Good.ok (by omega)

theorem f_one (lv) (one : One) (R : List Tok) (h : 40 * R.length + 12 ≤ n) : Good R.length 1 (pRun n (one.g lv) R) := by
  cases one
  · exact ih.assign lv R (by omega)
  · exact ih.pair lv R (by omega)
  · exact ih.param lv R (by omega)

theorem f_list (lv e most one m) (R : List Tok) (h : 40 * R.length + 13 ≤ n + 1) : Good R.length 1 (listB (pRun n) lv e most one m R) :=
  Good.ite (fun e => Good.ok (by have := tok_len e; omega)) fun _ => Good.bind (i := 0) (j := 1)
    (Good.ite (fun _ => (Good.need _ R).mono (by omega)) (fun _ => Good.ok (by omega)))
    (fun _ R0 h0 => Good.ite (fun _ => Good.fail _ _) fun _ => Good.bind (j := 0) (f_one ih lv one R0 (by omega)) (fun k R1 h1 => Good.bind (j := 0) (ih.list lv e most one _ R1 (by omega)) (fun ks R2 h2 => Good.ok (by omega)) (by omega)) (by omega)) (by omega)

omit ih in
theorem f_param (R : List Tok) : Good R.length 1 (paramB R) := Good.bind (j := 0) (Good.name R) (fun _ R1 h1 => Good.ok1 (by omega)) (by omega)

theorem f_primary (lv) (R : List Tok) (h : 40 * R.length + 4 ≤ n + 1) : Good R.length 1 (primaryB (pRun n) lv R) :=
  Good.ite (fun e => Good.ok1 (by have := kind_len e (by decide); omega)) fun _ =>
  Good.ite (fun e => Good.ok1 (by have := kind_len e (by decide); omega)) fun _ =>
  Good.ite (fun e => Good.ok1 (by have := kind_len e (by decide); omega)) fun _ =>
  Good.ite (fun e => Good.ok1 (by simp at e; have := tail_len (R := R) (by omega); omega)) fun _ =>
  Good.ite (fun e => (Good.bind (i := 0) (j := 0) (k := 0) (L := R.tail.length) (Good.ite (fun _ => (Good.name R.tail).mono (by omega)) (fun _ => Good.ok (by omega))) (fun nm R1 h1 => Good.bind (j := 0) (ih.rest lv R1 (by have := tok_len e; omega)) (fun ks R2 h2 => Good.ok1 (by omega)) (by omega)) (by omega)).mono (by have := tok_len e; omega)) fun _ =>
  Good.ite (fun e => (Good.bind (j := 0) (k := 0) (ih.assign lv R.tail (by have := tok_len e; omega)) (fun k R1 h1 => Good.bind (j := 0) (Good.need _ R1) (fun _ R2 h2 => Good.ok (by omega)) (by omega)) (by omega)).mono (by have := tok_len e; omega)) fun _ =>
  Good.ite (fun e => (Good.bind (j := 0) (k := 0) (ih.list lv _ 16384 .assign 0 R.tail (by have := tok_len e; omega)) (fun ks R1 h1 => Good.ok1 (by omega)) (by omega)).mono (by have := tok_len e; omega)) fun _ =>
  Good.ite (fun e => (Good.bind (j := 0) (k := 0) (ih.list lv _ 16384 .pair 0 R.tail (by have := tok_len e; omega)) (fun ks R1 h1 => Good.ok1 (by omega)) (by omega)).mono (by have := tok_len e; omega)) fun _ => Good.fail _ _

theorem f_key (lv) (R : List Tok) (h : 40 * R.length + 5 ≤ n + 1) : Good R.length 1 (keyB (pRun n) lv R) :=
  Good.ite (fun e => Good.ok1 (by have := tail_len (R := R) (by simp at e; omega); omega)) fun _ =>
  Good.ite (fun e => ih.primary lv R (by omega)) fun _ =>
  Good.ite (fun e => (Good.bind (j := 0) (k := 0) (ih.assign lv R.tail (by have := tok_len e; omega)) (fun v R1 h1 => Good.bind (j := 0) (Good.need _ R1) (fun _ R2 h2 => Good.ok1 (by omega)) (by omega)) (by omega)).mono (by have := tok_len e; omega)) fun _ => Good.fail _ _

theorem f_pair (lv) (R : List Tok) (h : 40 * R.length + 12 ≤ n + 1) : Good R.length 1 (pairB (pRun n) lv R) :=
  Good.ite (fun e => Good.bind (j := 0) (ih.key lv R (by omega)) (fun k R1 h1 => Good.bind (j := 0) (Good.need _ R1) (fun _ R2 h2 => Good.bind (j := 0) (ih.assign lv R2 (by omega)) (fun v R3 h3 => Good.ok1 (by omega)) (by omega)) (by omega)) (by omega)) fun e =>
    have e1 : (hd R).kind ≠ 0 := by simp at e; omega
    (Good.bind (j := 0) (k := 0) (ih.key lv R.tail (by have := tail_len e1; omega)) (fun k R1 h1 => Good.bind (j := 0) (Good.need _ R1) (fun _ R2 h2 => Good.bind (i := 0) (j := 0)
      (Good.ite (fun _ => (Good.bind (j := 0) (k := 0) (Good.name R2) (fun nm R3 h3 => Good.ok1 (by omega)) (by omega)).mono (by omega)) (fun _ => Good.ok (by omega)))
      (fun ks R3 h3 => Good.bind (j := 0) (Good.need _ R3) (fun _ R4 h4 => Good.bind (j := 0) (ih.block lv R4 (by have := tail_len e1; omega)) (fun b R5 h5 => Good.ok1 (by omega)) (by omega)) (by omega)) (by omega)) (by omega)) (by omega)).mono (by have := tail_len e1; omega)

theorem f_stmt (lv) (R : List Tok) (h : 40 * R.length + 19 ≤ n + 1) : Good R.length 1 (stmtB (pRun n) lv R) :=
  Good.ite (fun _ => Good.fail _ _) fun _ =>
  Good.ite (fun e => ih.block _ R (by omega)) fun _ =>
  Good.ite (fun e => Good.ok1 (by have := tok_len e; omega)) fun _ =>
  Good.ite (fun e => f_exprS ih _ _ R (by omega)) fun _ =>
  Good.ite (fun e => (ih.declared _ _ _ _ R.tail (by have := tok_len e; omega)).mono (by have := tok_len e; omega)) fun _ =>
  Good.ite (fun e => (ih.declared _ _ _ _ R.tail (by have := tok_len e; omega)).mono (by have := tok_len e; omega)) fun _ =>
  Good.ite (fun e => (Good.bind (j := 0) (k := 0) (Good.name R.tail) (fun nm R1 h1 => Good.bind (j := 0) (ih.rest _ R1 (by have := tok_len e; omega)) (fun ks R2 h2 => Good.ok1 (by omega)) (by omega)) (by omega)).mono (by have := tok_len e; omega)) fun _ =>
  Good.ite (fun e => (Good.bind (j := 0) (k := 0) (ih.tested _ R.tail (by have := tok_len e; omega)) (fun ks R1 h1 => Good.ite
      (fun e2 => (Good.bind (j := 0) (k := 0) (ih.body _ R1.tail (by have := tok_len e; have := tok_len e2; omega)) (fun k R2 h2 => Good.ok1 (by omega)) (by omega)).mono (by have := tok_len e2; omega)) (fun _ => Good.ok1 (by omega))) (by omega)).mono (by have := tok_len e; omega)) fun _ =>
  Good.ite (fun e => (Good.bind (j := 0) (k := 0) (ih.tested _ R.tail (by have := tok_len e; omega)) (fun ks R1 h1 => Good.ok1 (by omega)) (by omega)).mono (by have := tok_len e; omega)) fun _ =>
  Good.ite (fun e => (ih.loop _ _ R.tail (by have := tok_len e; omega)).mono (by have := tok_len e; omega)) fun _ =>
  Good.ite (fun e => (ih.jump _ _ _ _ R.tail (by have := tok_len e; omega)).mono (by have := tok_len e; omega)) fun _ =>
  Good.ite (fun e => (ih.jump _ _ _ _ R.tail (by have := tok_len e; omega)).mono (by have := tok_len e; omega)) fun _ =>
  Good.ite (fun e => (ih.jump _ _ _ _ R.tail (by have := tok_len e; omega)).mono (by have := tok_len e; omega)) fun _ =>
  Good.ite (fun e => (ih.jump _ _ _ _ R.tail (by have := tok_len e; omega)).mono (by have := tok_len e; omega)) fun _ =>
  Good.ite (fun e => (ih.try_ _ _ R.tail (by have := tok_len e; omega)).mono (by have := tok_len e; omega)) fun _ =>
  f_exprS ih _ _ R (by omega)

theorem ih_succ : Ih (n + 1) where
  stmts := fun lv top R h => f_stmts ih lv top R h
  stmt := fun lv R h => f_stmt ih lv R h
  block := fun lv R h => f_block ih lv R h
  declared := fun lv kind pos value R h => f_declared ih lv kind pos value R h
  rest := fun lv R h => f_rest ih lv R h
  tested := fun lv R h => f_tested ih lv R h
  body := fun lv R h => f_body ih lv R h
  loop := fun lv pos R h => f_loop ih lv pos R h
  jump := fun lv kind pos value R h => f_jump ih lv kind pos value R h
  try_ := fun lv pos R h => f_try ih lv pos R h
  assign := fun lv R h => f_assign ih lv R h
  cond := fun lv R h => f_cond ih lv R h
  binary := fun lv least R h => f_binary ih lv least R h
  binTail := fun lv least pos k R h => f_binTail ih lv least pos k R h
  unary := fun lv R h => f_unary ih lv R h
  postfix_ := fun lv calls R h => f_postfix ih lv calls R h
  postTail := fun lv calls pos k R h => f_postTail ih lv calls pos k R h
  list := fun lv e most one m R h => f_list ih lv e most one m R h
  param := fun lv R _ => f_param R
  primary := fun lv R h => f_primary ih lv R h
  pair := fun lv R h => f_pair ih lv R h
  key := fun lv R h => f_key ih lv R h

end

theorem ih_all (n : Nat) : Ih n := by
  induction n with
  | zero => exact ih_zero
  | succ n h => exact ih_succ h

/-- Fuel for a script. -/
theorem script_fuel (toks : List Tok) : pRun (40 * toks.length + 20) (.stmts 0 true) toks ≠ .out := ((ih_all _).stmts 0 true toks (Nat.le_refl _)).1

end Bf

/- The parser sees no further than it reads: two streams that begin alike. Plain Lean. -/
namespace Bf

def Tok.er (t : Tok) : Tok := { t with pos := 0 }
mutual
def T.er : T → T
  | .node k _ tx nm ks => .node k 0 tx nm (erL ks)
def erL : List T → List T
  | [] => []
  | t :: ts => t.er :: erL ts
end

theorem erL_append (a b : List T) : erL (a ++ b) = erL a ++ erL b := by
  induction a with
  | nil => rfl
  | cons t a ih => simp [erL, ih]

structure Ends where
  W : List Tok
  W' : List Tok

variable (q : Ends)

/-- The two streams stand alike: the same tokens (but for places) ahead of the two ends. -/
def Sam (R R' : List Tok) : Prop := ∃ X X' : List Tok, R = X ++ q.W ∧ R' = X' ++ q.W' ∧ X.map Tok.er = X'.map Tok.er

def Low (c : Prop) (R : List Tok) : Prop := R.length ≤ q.W.length ∧ (c → R.length < q.W.length)

/-- One answer against another: p: what is asked of the arguments; c: may it end just at the ends; k: so many tokens are read. -/
def Rel {α : Type} (p c : Prop) (k : Nat) (R R' : List Tok) (eq : α → α → Prop) (r r' : Res α) : Prop :=
  ∀ v R1, r = .ok v R1 → R1.length + k ≤ R.length ∧ (p → Sam q R R' → Low q c R1 ∨ ∃ v' R1', r' = .ok v' R1' ∧ Sam q R1 R1' ∧ eq v v')

section
variable {q : Ends} {α β : Type} {p c c1 : Prop} {k i j : Nat} {R R' : List Tok} {eq : α → α → Prop} {eq2 : β → β → Prop}

theorem Rel.err (e x : Nat) (r' : Res α) : Rel q p c k R R' eq (.err e x) r' := fun v R1 h => by cases h
theorem Rel.fail (e : Nat) (S : List Tok) (r' : Res α) : Rel q p c k R R' eq (fail e S) r' := fun v R1 h => by cases h

theorem Rel.ok {a a' : α} {S S' : List Tok} (h : S.length + k ≤ R.length) (hs : p → Sam q R R' → (Low q c S ∨ Sam q S S') ) (he : p → eq a a') : Rel q p c k R R' eq (.ok a S) (.ok a' S') := by
  rintro v R1 ⟨⟩
  refine ⟨h, fun hp hst => ?_⟩
  rcases hs hp hst with h1 | h1
  · exact .inl h1
  · exact .inr ⟨_, _, rfl, h1, he hp⟩

theorem Rel.here {a a' : α} (he : p → eq a a') : Rel q p c 0 R R' eq (.ok a R) (.ok a' R') := Rel.ok (by omega) (fun _ h => .inr h) he

theorem Rel.weak {r r' : Res α} {p' : Prop} {k' : Nat} (h : Rel q p c k R R' eq r r') (hp : p' → p) (hk : k' ≤ k) : Rel q p' c k' R R' eq r r' := fun v R1 e => by
  obtain ⟨h1, h2⟩ := h v R1 e
  exact ⟨by omega, fun a b => h2 (hp a) b⟩

theorem Rel.bind {r r' : Res α} {f f' : α → List Tok → Res β} (h : Rel q p c1 i R R' eq r r') (g : ∀ v v' R1 R1', R1.length + i ≤ R.length → Rel q (p ∧ eq v v') c j R1 R1' eq2 (f v R1) (f' v' R1'))
    (hc : (c → c1) ∨ 1 ≤ j) (hk : k ≤ i + j) : Rel q p c k R R' eq2 (r.bind f) (r'.bind f') := by
  intro u R2 hu
  cases r with
  | err e x => cases hu
  | out => cases hu
  | ok v R1 =>
    obtain ⟨h1, h2⟩ := h v R1 rfl
    have hu' : f v R1 = .ok u R2 := hu
    have hl := (g v v R1 R1 h1 u R2 hu').1
    refine ⟨by omega, fun hp hst => ?_⟩
    rcases h2 hp hst with hlow | ⟨v', R1', hr', hst', he⟩
    · left
      refine ⟨by have := hlow.1; omega, fun hc' => ?_⟩
      rcases hc with hc | hj
      · have := hlow.2 (hc hc'); omega
      · have := hlow.1; omega
    · subst hr'
      exact (g v v' R1 R1' h1 u R2 hu').2 ⟨hp, he⟩ hst'

/-- A token more of both. -/
theorem Sam.tail (h : Sam q R R') (hne : R ≠ []) : Low q c R.tail ∨ (∃ t t', R = t :: R.tail ∧ R' = t' :: R'.tail ∧ t.er = t'.er) ∧ Sam q R.tail R'.tail := by
  obtain ⟨X, X', rfl, rfl, he⟩ := h
  cases X with
  | nil =>
    left
    rw [List.nil_append] at hne ⊢
    have : q.W.tail.length < q.W.length := by cases hw : q.W with | nil => exact absurd hw hne | cons a b => simp
    exact ⟨by omega, fun _ => this⟩
  | cons t X =>
    cases X' with
    | nil => simp at he
    | cons t' X' =>
      right
      simp only [List.map_cons, List.cons.injEq] at he
      exact ⟨⟨t, t', rfl, rfl, he.1⟩, X, X', rfl, rfl, he.2⟩

/-- The tests that see one token. -/
def Inv (f : Tok → Bool) : Prop := ∀ t : Tok, f t = f t.er

theorem inv_isTok (s : List UInt8) : Inv fun t => isTok t s := fun _ => rfl

theorem Rel.ite {f : Tok → Bool} {a a' b b' : Res α} (hf : Inv f) (ha : f (hd R) = true → Rel q p c k R R' eq a a') (hb : f (hd R) = false → Rel q p c k R R' eq b b')
    (hside : 1 ≤ k ∨ (c → f (hd q.W) = f (hd q.W'))) : Rel q p c k R R' eq (if f (hd R) then a else b) (if f (hd R') then a' else b') := by
  have key : ∀ (x : Bool) (u v : Res α), (x = f (hd R)) → Rel q p c k R R' eq (if x then u else v) (if x then a' else b') → Rel q p c k R R' eq (if x then u else v) (if f (hd R') then a' else b') := by
    intro x u v hx hrel w R1 hw
    obtain ⟨h1, h2⟩ := hrel w R1 hw
    refine ⟨h1, fun hp hst => ?_⟩
    obtain ⟨X, X', rfl, rfl, he⟩ := id hst
    cases X with
    | nil =>
      cases X' with
      | cons t' X' => simp at he
      | nil =>
        rcases hside with hk | hcw
        · left
          simp at h1
          exact ⟨by omega, fun _ => by omega⟩
        · by_cases hc : c
          · have e2 : f (hd ([] ++ q.W')) = x := by
              rw [List.nil_append, ← hcw hc]
              simpa using hx.symm
            simp only [e2]
            exact h2 hp hst
          · left
            simp at h1
            exact ⟨by omega, fun e => absurd e hc⟩
    | cons t X =>
      cases X' with
      | nil => simp at he
      | cons t' X' =>
        simp only [List.map_cons, List.cons.injEq] at he
        have e : f (hd (t' :: X' ++ q.W')) = x := by
          rw [hx]
          show f t' = f t
          rw [hf t', hf t, he.1]
        rw [e]
        exact h2 hp hst
  cases hx : f (hd R) with
  | true => exact key true a b hx.symm (by simpa using ha hx)
  | false => exact key false a b hx.symm (by simpa using hb hx)

theorem Rel.need (s : List UInt8) : Rel q p c 1 R R' (fun _ _ => True) (need s R) (need s R') := by
  refine Rel.ite (inv_isTok s) (fun h => Rel.ok (by have := tok_len h; omega) (fun _ hst => ?_) (fun _ => trivial)) (fun _ => Rel.fail _ _ _) (.inl (Nat.le_refl _))
  have hne : R ≠ [] := by rintro rfl; exact isTok_kind h rfl
  exact (hst.tail hne).imp id (fun h => h.2)

theorem Rel.name : Rel q p c 1 R R' (fun a b => a = b) (name R) (name R') := by
  refine Rel.ite (f := fun t => t.kind == 1) (fun _ => rfl) (fun h => ?_) (fun _ => Rel.fail _ _ _) (.inl (Nat.le_refl _))
  have hk : (hd R).kind ≠ 0 := by simp at h; omega
  have hne : R ≠ [] := by rintro rfl; exact hk rfl
  rintro v R1 ⟨⟩
  refine ⟨by have := tail_len hk; omega, fun _ hst => ?_⟩
  rcases hst.tail (c := c) hne with h1 | ⟨⟨t, t', e1, e2, e3⟩, h1⟩
  · exact .inl h1
  · refine .inr ⟨_, _, rfl, h1, ?_⟩
    have e4 : t.er.text = t'.er.text := by rw [e3]
    show (hd R).text = (hd R').text
    rw [e1, e2]
    exact e4
theorem Rel.cls {r r' : Res α} {c' : Prop} (h : Rel q p c k R R' eq r r') (hc : c' → c) : Rel q p c' k R R' eq r r' := fun v R1 e => by
  obtain ⟨h1, h2⟩ := h v R1 e
  exact ⟨h1, fun a b => (h2 a b).imp (fun l => ⟨l.1, fun x => l.2 (hc x)⟩) id⟩

theorem Rel.adv {r r' : Res α} (hk : (hd R).kind ≠ 0) (h : Rel q (p ∧ (hd R).er = (hd R').er) c k R.tail R'.tail eq r r') : Rel q p c (k + 1) R R' eq r r' := fun v R1 e => by
  obtain ⟨h1, h2⟩ := h v R1 e
  have hl := tail_len hk
  have hne : R ≠ [] := by rintro rfl; exact hk rfl
  refine ⟨by omega, fun hp hst => ?_⟩
  rcases hst.tail (c := True) hne with h3 | ⟨⟨t, t', e1, e2, e3⟩, h3⟩
  · left
    have := h3.2 trivial
    exact ⟨by omega, fun _ => by omega⟩
  · refine h2 ⟨hp, ?_⟩ h3
    have e4 : hd R = t := by rw [e1]; rfl
    have e5 : hd R' = t' := by rw [e2]; rfl
    rw [e4, e5, e3]

theorem Rel.level {r r' : Res α} {lv lv' : Nat} (e : Nat) (S S' : List Tok) (hl : lv' ≤ lv) (h : ¬ 200 < lv + 1 → Rel q p c k R R' eq r r') : Rel q p c k R R' eq (if 200 < lv + 1 then Bf.fail e S else r) (if 200 < lv' + 1 then Bf.fail e S' else r') := by
  by_cases hh : 200 < lv + 1
  · rw [if_pos hh]; exact Rel.fail _ _ _
  · rw [if_neg hh, if_neg (by omega)]; exact h hh

/-- A test on two tokens: both ways read two tokens or more. -/
theorem Rel.ite2 {f : List Tok → Bool} {a a' b b' : Res α} (hf : ∀ t u X t' u' X', t.er = t'.er → u.er = u'.er → f (t :: u :: X) = f (t' :: u' :: X')) (hk : 2 ≤ k)
    (ha : f R = true → Rel q p c k R R' eq a a') (hb : f R = false → Rel q p c k R R' eq b b') : Rel q p c k R R' eq (if f R then a else b) (if f R' then a' else b') := by
  intro w R1 hw
  have hl : R1.length + k ≤ R.length := by
    cases hx : f R with
    | true => rw [if_pos hx] at hw; exact (ha hx w R1 hw).1
    | false => rw [if_neg (by rw [hx]; decide)] at hw; exact (hb hx w R1 hw).1
  refine ⟨hl, fun hp hst => ?_⟩
  obtain ⟨X, X', e1, e2, he⟩ := id hst
  match X, X', he with
  | [], _, _ => left; rw [e1] at hl; simp at hl; exact ⟨by omega, fun _ => by omega⟩
  | [t], _, _ => left; rw [e1] at hl; simp at hl; exact ⟨by omega, fun _ => by omega⟩
  | t :: u :: X, [], he => simp at he
  | t :: u :: X, [_], he => simp at he
  | t :: u :: X, t' :: u' :: X', he =>
    simp only [List.map_cons, List.cons.injEq] at he
    have e : f R' = f R := by rw [e1, e2]; exact (hf _ _ _ _ _ _ he.1 he.2.1).symm
    cases hx : f R with
    | true =>
      rw [if_pos hx] at hw
      rw [if_pos (e.trans hx)]
      exact (ha hx w R1 hw).2 hp hst
    | false =>
      rw [if_neg (by rw [hx]; decide)] at hw
      rw [if_neg (by rw [e, hx]; decide)]
      exact (hb hx w R1 hw).2 hp hst

theorem Rel.okTail {a a' : α} (hk : (hd R).kind ≠ 0) (he : p → (hd R).er = (hd R').er → eq a a') : Rel q p c 1 R R' eq (.ok a R.tail) (.ok a' R'.tail) :=
  Rel.adv hk (Rel.here (fun h => he h.1 h.2))

theorem Rel.same {x : Prop} [Decidable x] {a a' b b' : Res α} (ha : x → Rel q p c k R R' eq a a') (hb : ¬ x → Rel q p c k R R' eq b b') : Rel q p c k R R' eq (if x then a else b) (if x then a' else b') := by
  by_cases h : x
  · rw [if_pos h, if_pos h]; exact ha h
  · rw [if_neg h, if_neg h]; exact hb h

theorem Rel.iteP {x x' : Bool} {a a' b b' : Res α} (hx : p → x = x') (ha : x = true → Rel q p c k R R' eq a a') (hb : x = false → Rel q p c k R R' eq b b') : Rel q p c k R R' eq (if x then a else b) (if x' then a' else b') := by
  intro w R1 hw
  cases h : x with
  | true =>
    rw [if_pos h] at hw
    obtain ⟨h1, h2⟩ := ha h w R1 hw
    exact ⟨h1, fun hp hst => by rw [if_pos ((hx hp).symm.trans h)]; exact h2 hp hst⟩
  | false =>
    rw [if_neg (by rw [h]; decide)] at hw
    obtain ⟨h1, h2⟩ := hb h w R1 hw
    exact ⟨h1, fun hp hst => by rw [if_neg (by rw [← hx hp, h]; decide)]; exact h2 hp hst⟩

theorem Rel.right {r r' r'' : Res α} (h : p → r'' = r') (g : Rel q p c k R R' eq r r') : Rel q p c k R R' eq r r'' := fun v R1 e => by
  obtain ⟨h1, h2⟩ := g v R1 e
  exact ⟨h1, fun hp hst => by rw [h hp]; exact h2 hp hst⟩

end

abbrev eqT (a b : List T) : Prop := erL a = erL b

theorem er_text {t u : Tok} (h : t.er = u.er) : t.text = u.text := by
  have e : t.er.text = u.er.text := by rw [h]
  exact e
theorem er_num {t u : Tok} (h : t.er = u.er) : t.num = u.num := by
  have e : t.er.num = u.er.num := by rw [h]
  exact e
theorem er_kind {t u : Tok} (h : t.er = u.er) : t.kind = u.kind := by
  have e : t.er.kind = u.er.kind := by rw [h]
  exact e

theorem erL_length {a b : List T} (h : erL a = erL b) : a.length = b.length := by
  have e : ∀ l : List T, (erL l).length = l.length := by
    intro l
    induction l with
    | nil => rfl
    | cons t l ih => simp [erL, ih]
  rw [← e a, ← e b, h]

theorem T.kind_er (t : T) : t.er.kind = t.kind := by cases t; rfl
theorem erL_head {a b : List T} (h : erL a = erL b) : (a.headD default).er = (b.headD default).er := by
  cases a with
  | nil => cases b with
    | nil => rfl
    | cons t b => simp [erL] at h
  | cons t a => cases b with
    | nil => simp [erL] at h
    | cons u b => simp only [erL, List.cons.injEq] at h; exact h.1
theorem firstKind_er {a b : List T} (h : erL a = erL b) : firstKind a = firstKind b := by
  unfold firstKind
  cases a with
  | nil => cases b with
    | nil => rfl
    | cons t b => simp [erL] at h
  | cons t a => cases b with
    | nil => simp [erL] at h
    | cons u b =>
      simp only [erL, List.cons.injEq] at h
      show t.kind = u.kind
      rw [← T.kind_er t, ← T.kind_er u, h.1]

theorem eq_node {k pos pos' : Nat} {tx tx' : List UInt8} {nm nm' : Nat} {ks ks' : List T} (h1 : tx = tx') (h2 : nm = nm') (h3 : erL ks = erL ks') : eqT [.node k pos tx nm ks] [.node k pos' tx' nm' ks'] := by
  subst h1; subst h2
  show erL _ = erL _
  simp [erL, T.er, h3]

theorem eq_app {a a' b b' : List T} (h1 : eqT a a') (h2 : eqT b b') : eqT (a ++ b) (a' ++ b') := by
  show erL _ = erL _
  rw [erL_append, erL_append, h1, h2]

/-- What the two ends must share. -/
structure Stops (q : Ends) (E S : Prop) : Prop where
  dot : E → isTok (hd q.W) [46] = isTok (hd q.W') [46]
  idx : E → isTok (hd q.W) [91] = isTok (hd q.W') [91]
  call : E → isTok (hd q.W) [40] = isTok (hd q.W') [40]
  quest : E → isTok (hd q.W) [63] = isTok (hd q.W') [63]
  asg : E → assignOp (hd q.W) = assignOp (hd q.W')
  tight : E → tight (hd q.W) = tight (hd q.W')
  else_ : S → isTok (hd q.W) [101, 108, 115, 101] = isTok (hd q.W') [101, 108, 115, 101]
  catch_ : S → isTok (hd q.W) [99, 97, 116, 99, 104] = isTok (hd q.W') [99, 97, 116, 99, 104]
  finally_ : S → isTok (hd q.W) [102, 105, 110, 97, 108, 108, 121] = isTok (hd q.W') [102, 105, 110, 97, 108, 108, 121]

/-- Part by part. -/
structure IhR (q : Ends) (E S : Prop) (n : Nat) : Prop where
  stmts : ∀ p lv lv' R R', lv' ≤ lv → Rel q p False 0 R R' eqT (pRun n (.stmts lv false) R) (pRun n (.stmts lv' false) R')
  stmt : ∀ p lv lv' R R', lv' ≤ lv → Rel q p S 1 R R' eqT (pRun n (.stmt lv) R) (pRun n (.stmt lv') R')
  block : ∀ p lv lv' R R', lv' ≤ lv → Rel q p True 1 R R' eqT (pRun n (.block lv) R) (pRun n (.block lv') R')
  declared : ∀ p lv lv' kind pos pos' value R R', lv' ≤ lv → Rel q p True 2 R R' eqT (pRun n (.declared lv kind pos value) R) (pRun n (.declared lv' kind pos' value) R')
  rest : ∀ p lv lv' R R', lv' ≤ lv → Rel q p True 1 R R' eqT (pRun n (.rest lv) R) (pRun n (.rest lv') R')
  tested : ∀ p lv lv' R R', lv' ≤ lv → Rel q p S 1 R R' eqT (pRun n (.tested lv) R) (pRun n (.tested lv') R')
  body : ∀ p lv lv' R R', lv' ≤ lv → Rel q p S 1 R R' eqT (pRun n (.body lv) R) (pRun n (.body lv') R')
  loop : ∀ p lv lv' pos pos' R R', lv' ≤ lv → Rel q p S 1 R R' eqT (pRun n (.loop lv pos) R) (pRun n (.loop lv' pos') R')
  jump : ∀ p lv lv' kind pos pos' value R R', lv' ≤ lv → Rel q p True 1 R R' eqT (pRun n (.jump lv kind pos value) R) (pRun n (.jump lv' kind pos' value) R')
  try_ : ∀ p lv lv' pos pos' R R', lv' ≤ lv → Rel q p S 1 R R' eqT (pRun n (.try_ lv pos) R) (pRun n (.try_ lv' pos') R')
  assign : ∀ p lv lv' R R', lv' ≤ lv → Rel q p E 1 R R' eqT (pRun n (.assign lv) R) (pRun n (.assign lv') R')
  cond : ∀ p lv lv' R R', lv' ≤ lv → Rel q p E 1 R R' eqT (pRun n (.cond lv) R) (pRun n (.cond lv') R')
  binary : ∀ p lv lv' least R R', lv' ≤ lv → Rel q p E 1 R R' eqT (pRun n (.binary lv least) R) (pRun n (.binary lv' least) R')
  binTail : ∀ p lv lv' least pos pos' k k' R R', lv' ≤ lv → (p → k.er = k'.er) → Rel q p E 0 R R' eqT (pRun n (.binTail lv least pos k) R) (pRun n (.binTail lv' least pos' k') R')
  unary : ∀ p lv lv' R R', lv' ≤ lv → Rel q p E 1 R R' eqT (pRun n (.unary lv) R) (pRun n (.unary lv') R')
  postfix_ : ∀ p lv lv' calls R R', lv' ≤ lv → Rel q p E 1 R R' eqT (pRun n (.postfix_ lv calls) R) (pRun n (.postfix_ lv' calls) R')
  postTail : ∀ p lv lv' calls pos pos' k k' R R', lv' ≤ lv → (p → k.er = k'.er) → Rel q p E 0 R R' eqT (pRun n (.postTail lv calls pos k) R) (pRun n (.postTail lv' calls pos' k') R')
  list : ∀ p lv lv' e most one m R R', lv' ≤ lv → Rel q p True 1 R R' eqT (pRun n (.list lv e most one m) R) (pRun n (.list lv' e most one m) R')
  param : ∀ p lv lv' R R', lv' ≤ lv → Rel q p True 1 R R' eqT (pRun n (.param lv) R) (pRun n (.param lv') R')
  primary : ∀ p lv lv' R R', lv' ≤ lv → Rel q p True 1 R R' eqT (pRun n (.primary lv) R) (pRun n (.primary lv') R')
  pair : ∀ p lv lv' R R', lv' ≤ lv → Rel q p E 1 R R' eqT (pRun n (.pair lv) R) (pRun n (.pair lv') R')
  key : ∀ p lv lv' R R', lv' ≤ lv → Rel q p True 1 R R' eqT (pRun n (.key lv) R) (pRun n (.key lv') R')

section
variable {q : Ends} {E S : Prop} {n : Nat} (hq : Stops q E S) (ih : IhR q E S n) {p : Prop} {lv lv' pos pos' : Nat} {R R' : List Tok}

include ih in
theorem r_stmts (hl : lv' ≤ lv) : Rel q p False 0 R R' eqT (stmtsB (pRun n) lv false R) (stmtsB (pRun n) lv' false R') :=
  Rel.ite (f := fun t => isTok t [125]) (inv_isTok _) (fun _ => Rel.here (fun _ => rfl)) (fun _ => Rel.bind (c1 := S) (i := 1) (j := 0) (ih.stmt _ _ _ _ _ hl) (fun v v' R1 R1' h1 =>
    Rel.bind (c1 := False) (i := 0) (j := 0) (ih.stmts _ _ _ _ _ hl) (fun u u' R2 R2' h2 => Rel.here (fun h => eq_app h.1.2 h.2)) (.inl id) (by omega)) (.inl False.elim) (by omega)) (.inr False.elim)

include ih in
theorem r_exprS (hl : lv' ≤ lv) : Rel q p True 2 R R' eqT (exprS (pRun n) lv pos R) (exprS (pRun n) lv' pos' R') :=
  Rel.bind (c1 := E) (i := 1) (j := 1) (ih.assign _ _ _ _ _ hl) (fun v v' R1 R1' _ => Rel.bind (c1 := True) (i := 1) (j := 0) (Rel.need _) (fun u u' R2 R2' _ => Rel.here (fun h => eq_node rfl rfl h.1.2)) (.inl id) (by omega)) (.inr (by omega)) (by omega)

include ih in
theorem r_block (hl : lv' ≤ lv) : Rel q p True 1 R R' eqT (blockB (pRun n) lv R) (blockB (pRun n) lv' R') :=
  Rel.bind (c1 := True) (i := 1) (j := 1) (Rel.need _) (fun _ _ R0 R0' _ => Rel.bind (c1 := False) (i := 0) (j := 1) (ih.stmts _ _ _ _ _ hl) (fun v v' R1 R1' _ => Rel.bind (c1 := True) (i := 1) (j := 0) (Rel.need _) (fun u u' R2 R2' _ => Rel.here (fun h => eq_node rfl rfl h.1.2)) (.inl id) (by omega)) (.inr (by omega)) (by omega)) (.inl id) (by omega)

include ih in
theorem r_declared (kind : Nat) (value : Bool) (hl : lv' ≤ lv) : Rel q p True 2 R R' eqT (declaredB (pRun n) lv kind pos value R) (declaredB (pRun n) lv' kind pos' value R') :=
  Rel.bind (c1 := True) (i := 1) (j := 1) Rel.name (fun nm nm' R0 R0' _ => Rel.bind (c1 := E) (i := 0) (j := 1)
    (Rel.same (fun _ => Rel.weak (Rel.bind (c1 := True) (i := 1) (j := 1) (k := 2) (Rel.need _) (fun _ _ R1 R1' _ => ih.assign _ _ _ _ _ hl) (.inr (by omega)) (by omega)) id (by omega)) (fun _ => Rel.here (fun _ => rfl)))
    (fun v v' R1 R1' _ => Rel.bind (c1 := True) (i := 1) (j := 0) (Rel.need _) (fun u u' R2 R2' _ => Rel.here (fun h => eq_node h.1.1.2 rfl h.1.2)) (.inl id) (by omega)) (.inr (by omega)) (by omega)) (.inl id) (by omega)

include ih in
theorem r_rest (hl : lv' ≤ lv) : Rel q p True 1 R R' eqT (restB (pRun n) lv R) (restB (pRun n) lv' R') :=
  Rel.bind (c1 := True) (i := 1) (j := 1) (Rel.need _) (fun _ _ R0 R0' _ => Rel.bind (c1 := True) (i := 1) (j := 1) (ih.list _ _ _ _ _ _ _ _ _ hl) (fun v v' R1 R1' _ => Rel.bind (c1 := True) (i := 1) (j := 0) (ih.block _ _ _ _ _ hl) (fun u u' R2 R2' _ => Rel.here (fun h => eq_app h.1.2 h.2)) (.inl id) (by omega)) (.inl id) (by omega)) (.inl id) (by omega)

include ih in
theorem r_tested (hl : lv' ≤ lv) : Rel q p S 1 R R' eqT (testedB (pRun n) lv R) (testedB (pRun n) lv' R') :=
  Rel.bind (c1 := True) (i := 1) (j := 1) (Rel.need _) (fun _ _ R0 R0' _ => Rel.bind (c1 := E) (i := 1) (j := 1) (ih.assign _ _ _ _ _ hl) (fun v v' R1 R1' _ => Rel.bind (c1 := True) (i := 1) (j := 1) (Rel.need _) (fun _ _ R2 R2' _ =>
    Rel.bind (c1 := S) (i := 1) (j := 0) (ih.body _ _ _ _ _ hl) (fun u u' R3 R3' _ => Rel.here (fun h => eq_app h.1.1.2 h.2)) (.inl id) (by omega)) (.inr (by omega)) (by omega)) (.inr (by omega)) (by omega)) (.inr (by omega)) (by omega)

include ih in
theorem r_body (hl : lv' ≤ lv) : Rel q p S 1 R R' eqT (bodyB (pRun n) lv R) (bodyB (pRun n) lv' R') :=
  Rel.ite (f := fun t => isTok t [108, 101, 116] || isTok t [99, 111, 110, 115, 116] || isTok t [102, 117, 110, 99, 116, 105, 111, 110]) (fun _ => rfl) (fun _ => fun v R1 e => by split at e <;> cases e) (fun _ => ih.stmt _ _ _ _ _ hl) (.inl (by omega))

include ih in
theorem r_loop (hl : lv' ≤ lv) : Rel q p S 1 R R' eqT (loopB (pRun n) lv pos R) (loopB (pRun n) lv' pos' R') :=
  Rel.bind (c1 := True) (i := 1) (j := 1) (Rel.need _) (fun _ _ R0 R0' _ => Rel.bind (c1 := True) (i := 1) (j := 1) (eq2 := eqT) (eq := fun a b : Nat => a = b)
    (Rel.ite (f := fun t => isTok t [108, 101, 116]) (inv_isTok _) (fun h => Rel.okTail (isTok_kind h) (fun _ _ => rfl)) (fun _ => Rel.bind (c1 := True) (i := 1) (j := 0) (Rel.need _) (fun _ _ R1 R1' _ => Rel.here (fun _ => rfl)) (.inl id) (by omega)) (.inl (by omega)))
    (fun kd kd' R1 R1' _ => Rel.bind (c1 := True) (i := 1) (j := 1) Rel.name (fun nm nm' R2 R2' _ => Rel.bind (c1 := True) (i := 1) (j := 1) (eq2 := eqT) (eq := fun a b : Nat => a = b)
      (Rel.ite (f := fun t => isTok t [105, 110]) (inv_isTok _) (fun h => Rel.okTail (isTok_kind h) (fun _ _ => rfl)) (fun _ => Rel.ite (f := isOf) (fun _ => rfl) (fun h => Rel.okTail (by unfold isOf at h; simp at h; omega) (fun _ _ => rfl)) (fun _ => Rel.fail _ _ _) (.inl (by omega))) (.inl (by omega)))
      (fun out out' R3 R3' _ => Rel.bind (c1 := E) (i := 1) (j := 1) (ih.assign _ _ _ _ _ hl) (fun v v' R4 R4' _ => Rel.bind (c1 := True) (i := 1) (j := 1) (Rel.need _) (fun _ _ R5 R5' _ => Rel.bind (c1 := S) (i := 1) (j := 0) (ih.body _ _ _ _ _ hl)
        (fun b b' R6 R6' _ => Rel.here (fun h => by
          obtain ⟨⟨⟨⟨⟨⟨⟨_, _⟩, h1⟩, h2⟩, h3⟩, h4⟩, _⟩, h5⟩ := h
          subst h1; subst h2; subst h3
          exact eq_node rfl rfl (by simp only [erL, T.er]; rw [eq_app h4 h5])))
        (.inl id) (by omega)) (.inr (by omega)) (by omega)) (.inr (by omega)) (by omega)) (.inr (by omega)) (by omega)) (.inr (by omega)) (by omega)) (.inr (by omega)) (by omega)) (.inr (by omega)) (by omega)

include ih in
theorem r_jump (kind : Nat) (value : Bool) (hl : lv' ≤ lv) : Rel q p True 1 R R' eqT (jumpB (pRun n) lv kind pos value R) (jumpB (pRun n) lv' kind pos' value R') :=
  Rel.bind (c1 := E) (i := 0) (j := 1) (Rel.same (fun _ => (ih.assign _ _ _ _ _ hl).weak id (by omega)) (fun _ => Rel.here (fun _ => rfl))) (fun v v' R1 R1' _ => Rel.bind (c1 := True) (i := 1) (j := 0) (Rel.need _) (fun u u' R2 R2' _ => Rel.here (fun h => eq_node rfl rfl h.1.2)) (.inl id) (by omega)) (.inr (by omega)) (by omega)

include hq ih in
theorem r_try (hl : lv' ≤ lv) : Rel q p S 1 R R' eqT (tryB (pRun n) lv pos R) (tryB (pRun n) lv' pos' R') :=
  Rel.bind (c1 := True) (i := 1) (j := 0) (ih.block _ _ _ _ _ hl) (fun b b' R0 R0' _ => Rel.bind (c1 := S) (i := 0) (j := 0) (eq := eqT)
    (Rel.ite (f := fun t => isTok t [99, 97, 116, 99, 104]) (inv_isTok _) (fun h => Rel.weak (Rel.adv (isTok_kind h) (Rel.bind (c1 := True) (i := 1) (j := 0) (k := 0) (Rel.need _) (fun _ _ R1 R1' _ => Rel.bind (c1 := True) (i := 1) (j := 0) (k := 0) Rel.name (fun nm nm' R2 R2' _ => Rel.bind (c1 := True) (i := 1) (j := 0) (k := 0) (Rel.need _) (fun _ _ R3 R3' _ =>
        Rel.bind (c1 := True) (i := 1) (j := 0) (k := 0) (ih.block _ _ _ _ _ hl) (fun v v' R4 R4' _ => Rel.here (fun h => eq_node h.1.1.2 rfl h.2)) (.inl (fun _ => trivial)) (by omega)) (.inl (fun _ => trivial)) (by omega)) (.inl (fun _ => trivial)) (by omega)) (.inl (fun _ => trivial)) (by omega))) id (by omega))
      (fun _ => Rel.here (fun _ => rfl)) (.inr hq.catch_))
    (fun v v' R1 R1' _ => Rel.bind (c1 := S) (i := 0) (j := 0) (eq := eqT)
      (Rel.ite (f := fun t => isTok t [102, 105, 110, 97, 108, 108, 121]) (inv_isTok _) (fun h => Rel.weak (Rel.adv (isTok_kind h) (Rel.bind (c1 := True) (i := 1) (j := 0) (k := 0) (ih.block _ _ _ _ _ hl) (fun v v' R4 R4' _ => Rel.here (fun h => eq_node rfl rfl h.2)) (.inl (fun _ => trivial)) (by omega))) id (by omega))
        (fun _ => Rel.here (fun _ => rfl)) (.inr hq.finally_))
      (fun f f' R2 R2' _ => Rel.iteP (fun h => by rw [erL_length (eq_app h.1.1.2 (eq_app h.1.2 h.2))]) (fun _ => Rel.fail _ _ _) (fun _ => Rel.here (fun h => eq_node rfl rfl (eq_app h.1.1.2 (eq_app h.1.2 h.2))))) (.inl id) (by omega)) (.inl id) (by omega)) (.inl (fun _ => trivial)) (by omega)

theorem er_one {k pos pos' : Nat} {tx tx' : List UInt8} {nm nm' : Nat} {ks ks' : List T} (h1 : tx = tx') (h2 : nm = nm') (h3 : erL ks = erL ks') : (T.node k pos tx nm ks).er = (T.node k pos' tx' nm' ks').er := by
  subst h1; subst h2
  simp [T.er, h3]

theorem asg_kind {t : Tok} (h : assignOp t = true) : t.kind ≠ 0 := by unfold assignOp at h; simp at h; omega
theorem una_kind {t : Tok} (h : isUnary t = true) : t.kind ≠ 0 := by
  unfold isUnary at h
  obtain ⟨s, _, hs⟩ := List.any_eq_true.1 h
  exact isTok_kind hs
theorem tig_kind {t : Tok} {least : Nat} (h : (tight t == 0 || decide (tight t < least)) = false) : t.kind ≠ 0 := by
  intro e
  have : tight t = 0 := by unfold tight; rw [e]; simp
  simp [this] at h
theorem er_tight {t u : Tok} (h : t.er = u.er) : tight t = tight u := by
  show tight t.er = tight u.er
  rw [h]

include hq ih in
theorem r_assign (hl : lv' ≤ lv) : Rel q p E 1 R R' eqT (assignB (pRun n) lv R) (assignB (pRun n) lv' R') :=
  Rel.level _ _ _ hl fun _ => Rel.bind (c1 := E) (i := 1) (j := 0) (ih.cond _ _ _ _ _ (by omega)) (fun k k' R0 R0' _ => Rel.ite (f := assignOp) (fun _ => rfl)
    (fun h => Rel.iteP (fun h => by rw [firstKind_er h.2]) (fun _ => Rel.fail _ _ _) (fun _ => Rel.weak (Rel.adv (asg_kind h) (Rel.bind (c1 := E) (i := 1) (j := 0) (k := 0) (ih.assign _ _ _ _ _ (by omega)) (fun a a' R1 R1' _ => Rel.here (fun h => eq_node (er_text h.1.2) rfl (eq_app h.1.1.2 h.2))) (.inl id) (by omega))) id (by omega)))
    (fun _ => Rel.here (fun h => h.2)) (.inr hq.asg)) (.inl id) (by omega)

include hq ih in
theorem r_cond (hl : lv' ≤ lv) : Rel q p E 1 R R' eqT (condB (pRun n) lv R) (condB (pRun n) lv' R') :=
  Rel.bind (c1 := E) (i := 1) (j := 0) (ih.binary _ _ _ _ _ _ hl) (fun k k' R0 R0' _ => Rel.ite (f := fun t => isTok t [63]) (inv_isTok _)
    (fun h => Rel.weak (Rel.adv (isTok_kind h) (Rel.bind (c1 := E) (i := 1) (j := 1) (k := 0) (ih.assign _ _ _ _ _ hl) (fun a a' R1 R1' _ => Rel.bind (c1 := True) (i := 1) (j := 1) (Rel.need _) (fun _ _ R2 R2' _ => Rel.bind (c1 := E) (i := 1) (j := 0) (ih.assign _ _ _ _ _ hl) (fun b b' R3 R3' _ => Rel.here (fun h => eq_node rfl rfl (eq_app h.1.1.1.1.2 (eq_app h.1.1.2 h.2)))) (.inl id) (by omega)) (.inr (by omega)) (by omega)) (.inr (by omega)) (by omega))) id (by omega))
    (fun _ => Rel.here (fun h => h.2)) (.inr hq.quest)) (.inl id) (by omega)

include ih in
theorem r_binary (least : Nat) (hl : lv' ≤ lv) : Rel q p E 1 R R' eqT (binaryB (pRun n) lv least R) (binaryB (pRun n) lv' least R') :=
  Rel.bind (c1 := E) (i := 1) (j := 0) (ih.unary _ _ _ _ _ hl) (fun k k' R1 R1' _ => ih.binTail _ _ _ _ _ _ _ _ _ _ hl (fun h => erL_head h.2)) (.inl id) (by omega)

include hq ih in
theorem r_binTail (least : Nat) (k k' : T) (hk : p → k.er = k'.er) (hl : lv' ≤ lv) : Rel q p E 0 R R' eqT (binTailB (pRun n) lv least pos k R) (binTailB (pRun n) lv' least pos' k' R') :=
  Rel.ite (f := fun t => tight t == 0 || decide (tight t < least)) (fun _ => rfl) (fun _ => Rel.here (fun h => by show erL _ = erL _; simp [erL, hk h]))
    (fun h => Rel.weak (Rel.adv (tig_kind h) (Rel.right (fun h => by rw [er_tight h.2]) (Rel.bind (c1 := E) (i := 1) (j := 0) (k := 0) (ih.binary _ _ _ _ _ _ hl) (fun b b' R1 R1' _ => Rel.right (fun h => rfl) (ih.binTail _ _ _ _ _ _ _ _ _ _ hl (fun h => by rw [← er_tight h.1.2]; exact er_one (by rw [er_text h.1.2]) rfl (by simp only [erL, hk h.1.1]; rw [h.2])))) (.inl id) (by omega)))) id (by omega))
    (.inr (fun e => by rw [hq.tight e]))

include ih in
theorem r_unary (hl : lv' ≤ lv) : Rel q p E 1 R R' eqT (unaryB (pRun n) lv R) (unaryB (pRun n) lv' R') :=
  Rel.ite (f := isUnary) (fun _ => rfl) (fun h => Rel.level _ _ _ hl fun _ => Rel.weak (Rel.adv (una_kind h) (Rel.bind (c1 := E) (i := 1) (j := 0) (k := 0) (ih.unary _ _ _ _ _ (by omega)) (fun k k' R1 R1' _ => Rel.here (fun h => eq_node (er_text h.1.2) rfl h.2)) (.inl id) (by omega))) id (by omega))
    (fun _ => ih.postfix_ _ _ _ _ _ _ hl) (.inl (by omega))

include ih in
theorem r_postfix (calls : Bool) (hl : lv' ≤ lv) : Rel q p E 1 R R' eqT (postfixB (pRun n) lv calls R) (postfixB (pRun n) lv' calls R') :=
  Rel.bind (c1 := E) (i := 1) (j := 0) (eq := eqT) (Rel.ite (f := fun t => isTok t [110, 101, 119]) (inv_isTok _)
      (fun h => Rel.level _ _ _ hl fun _ => Rel.weak (Rel.adv (isTok_kind h) (Rel.bind (c1 := E) (i := 1) (j := 1) (k := 0) (ih.postfix_ _ _ _ _ _ _ (by omega)) (fun k k' R1 R1' _ => Rel.bind (c1 := True) (i := 1) (j := 1) (Rel.need _) (fun _ _ R2 R2' _ => Rel.bind (c1 := True) (i := 1) (j := 0) (ih.list _ _ _ _ _ _ _ _ _ hl) (fun ks ks' R3 R3' _ => Rel.here (fun h => eq_node rfl rfl (eq_app h.1.1.2 h.2))) (.inl (fun _ => trivial)) (by omega)) (.inr (by omega)) (by omega)) (.inr (by omega)) (by omega))) id (by omega))
      (fun _ => (ih.primary _ _ _ _ _ hl).cls (fun _ => trivial)) (.inl (by omega)))
    (fun k k' R1 R1' _ => ih.postTail _ _ _ _ _ _ _ _ _ _ hl (fun h => erL_head h.2)) (.inl id) (by omega)

include hq ih in
theorem r_postTail (calls : Bool) (k k' : T) (hk : p → k.er = k'.er) (hl : lv' ≤ lv) : Rel q p E 0 R R' eqT (postTailB (pRun n) lv calls pos k R) (postTailB (pRun n) lv' calls pos' k' R') :=
  Rel.ite (f := fun t => isTok t [46]) (inv_isTok _)
    (fun h => Rel.weak (Rel.adv (isTok_kind h) (Rel.ite (f := fun t => !(t.kind == 1) && !(t.kind == 2)) (k := 1) (fun _ => rfl) (fun _ => Rel.fail _ _ _)
      (fun h2 => Rel.adv (by simp at h2; omega) (ih.postTail _ _ _ _ _ _ _ _ _ _ hl (fun h => er_one (er_text h.2) rfl (by simp [erL, hk h.1.1])))) (.inl (by omega)))) id (by omega))
    (fun _ => Rel.ite (f := fun t => isTok t [91]) (inv_isTok _)
      (fun h => Rel.weak (Rel.adv (isTok_kind h) (Rel.bind (c1 := E) (i := 1) (j := 1) (k := 0) (ih.assign _ _ _ _ _ hl) (fun v v' R1 R1' _ => Rel.bind (c1 := True) (i := 1) (j := 0) (Rel.need _) (fun _ _ R2 R2' _ => ih.postTail _ _ _ _ _ _ _ _ _ _ hl (fun h => er_one rfl rfl (by simp only [erL, hk h.1.1.1]; rw [h.1.2]))) (.inl (fun _ => trivial)) (by omega)) (.inr (by omega)) (by omega))) id (by omega))
      (fun _ => Rel.ite (f := fun t => calls && isTok t [40]) (fun _ => rfl)
        (fun h => Rel.weak (Rel.adv (isTok_kind (s := [40]) (by simp at h; exact h.2)) (Rel.bind (c1 := True) (i := 1) (j := 0) (k := 0) (ih.list _ _ _ _ _ _ _ _ _ hl) (fun v v' R1 R1' _ => ih.postTail _ _ _ _ _ _ _ _ _ _ hl (fun h => er_one rfl rfl (by simp only [erL, hk h.1.1]; rw [h.2]))) (.inl (fun _ => trivial)) (by omega))) id (by omega))
        (fun _ => Rel.here (fun h => by show erL _ = erL _; simp [erL, hk h])) (.inr (fun e => by rw [hq.call e]))) (.inr hq.idx)) (.inr hq.dot)

include ih in
theorem r_one (one : One) (hl : lv' ≤ lv) : Rel q p E 1 R R' eqT (pRun n (one.g lv) R) (pRun n (one.g lv') R') := by
  cases one
  · exact ih.assign _ _ _ _ _ hl
  · exact ih.pair _ _ _ _ _ hl
  · exact (ih.param _ _ _ _ _ hl).cls (fun _ => trivial)

include ih in
theorem r_list (e : List UInt8) (most : Nat) (one : One) (m : Nat) (hl : lv' ≤ lv) : Rel q p True 1 R R' eqT (listB (pRun n) lv e most one m R) (listB (pRun n) lv' e most one m R') :=
  Rel.ite (f := fun t => isTok t e) (inv_isTok _) (fun h => Rel.okTail (isTok_kind h) (fun _ _ => rfl)) (fun _ => Rel.bind (c1 := True) (i := 0) (j := 1) (eq := fun _ _ : Unit => True)
    (Rel.same (fun _ => (Rel.need _).weak id (by omega)) (fun _ => Rel.here (fun _ => trivial)))
    (fun _ _ R0 R0' _ => Rel.same (fun _ => Rel.fail _ _ _) (fun _ => Rel.bind (c1 := E) (i := 1) (j := 1) (r_one ih one hl) (fun k k' R1 R1' _ => Rel.bind (c1 := True) (i := 1) (j := 0) (ih.list _ _ _ _ _ _ _ _ _ hl) (fun ks ks' R2 R2' _ => Rel.here (fun h => eq_app h.1.2 h.2)) (.inl id) (by omega)) (.inr (by omega)) (by omega))) (.inl id) (by omega)) (.inl (by omega))

theorem r_param : Rel q p True 1 R R' eqT (paramB R) (paramB R') :=
  Rel.bind (c1 := True) (i := 1) (j := 0) Rel.name (fun nm nm' R1 R1' _ => Rel.here (fun h => eq_node h.2 rfl rfl)) (.inl id) (by omega)

include ih in
theorem r_primary (hl : lv' ≤ lv) : Rel q p True 1 R R' eqT (primaryB (pRun n) lv R) (primaryB (pRun n) lv' R') :=
  Rel.ite (f := fun t => t.kind == 3) (fun _ => rfl) (fun h => Rel.okTail (by simp at h; omega) (fun _ h => eq_node rfl (er_num h) rfl)) (fun _ =>
  Rel.ite (f := fun t => t.kind == 4) (fun _ => rfl) (fun h => Rel.okTail (by simp at h; omega) (fun _ h => eq_node (er_text h) rfl rfl)) (fun _ =>
  Rel.ite (f := fun t => t.kind == 1) (fun _ => rfl) (fun h => Rel.okTail (by simp at h; omega) (fun _ h => eq_node (er_text h) rfl rfl)) (fun _ =>
  Rel.ite (f := fun t => t.kind == 2 && decide (0 < simple t.text)) (fun _ => rfl) (fun h => Rel.okTail (by simp at h; omega) (fun _ h => by rw [er_text h]; exact eq_node rfl rfl rfl)) (fun _ =>
  Rel.ite (f := fun t => isTok t [102, 117, 110, 99, 116, 105, 111, 110]) (inv_isTok _) (fun h => Rel.weak (Rel.adv (isTok_kind h) (Rel.bind (c1 := False) (i := 0) (j := 1) (k := 0) (eq := fun a b : List UInt8 => a = b)
      (Rel.ite (f := fun t => t.kind == 1) (fun _ => rfl) (fun _ => Rel.weak Rel.name id (by omega)) (fun _ => Rel.here (fun _ => rfl)) (.inr False.elim))
      (fun nm nm' R1 R1' _ => Rel.bind (c1 := True) (i := 1) (j := 0) (ih.rest _ _ _ _ _ hl) (fun ks ks' R2 R2' _ => Rel.here (fun h => eq_node h.1.2 rfl h.2)) (.inl id) (by omega)) (.inr (by omega)) (by omega))) id (by omega)) (fun _ =>
  Rel.ite (f := fun t => isTok t [40]) (inv_isTok _) (fun h => Rel.weak (Rel.adv (isTok_kind h) (Rel.bind (c1 := E) (i := 1) (j := 1) (k := 0) (ih.assign _ _ _ _ _ hl) (fun v v' R1 R1' _ => Rel.bind (c1 := True) (i := 1) (j := 0) (Rel.need _) (fun _ _ R2 R2' _ => Rel.here (fun h => h.1.2)) (.inl id) (by omega)) (.inr (by omega)) (by omega))) id (by omega)) (fun _ =>
  Rel.ite (f := fun t => isTok t [91]) (inv_isTok _) (fun h => Rel.weak (Rel.adv (isTok_kind h) (Rel.bind (c1 := True) (i := 1) (j := 0) (k := 0) (ih.list _ _ _ _ _ _ _ _ _ hl) (fun v v' R1 R1' _ => Rel.here (fun h => eq_node rfl rfl h.2)) (.inl id) (by omega))) id (by omega)) (fun _ =>
  Rel.ite (f := fun t => isTok t [123]) (inv_isTok _) (fun h => Rel.weak (Rel.adv (isTok_kind h) (Rel.bind (c1 := True) (i := 1) (j := 0) (k := 0) (ih.list _ _ _ _ _ _ _ _ _ hl) (fun v v' R1 R1' _ => Rel.here (fun h => eq_node rfl rfl h.2)) (.inl id) (by omega))) id (by omega)) (fun _ => Rel.fail _ _ _)
    (.inl (by omega))) (.inl (by omega))) (.inl (by omega))) (.inl (by omega))) (.inl (by omega))) (.inl (by omega))) (.inl (by omega))) (.inl (by omega))

include ih in
theorem r_key (hl : lv' ≤ lv) : Rel q p True 1 R R' eqT (keyB (pRun n) lv R) (keyB (pRun n) lv' R') :=
  Rel.ite (f := fun t => t.kind == 1 || t.kind == 2 || t.kind == 4) (fun _ => rfl) (fun h => Rel.okTail (by simp at h; omega) (fun _ h => eq_node (er_text h) rfl rfl)) (fun _ =>
  Rel.ite (f := fun t => t.kind == 3) (fun _ => rfl) (fun _ => ih.primary _ _ _ _ _ hl) (fun _ =>
  Rel.ite (f := fun t => isTok t [91]) (inv_isTok _) (fun h => Rel.weak (Rel.adv (isTok_kind h) (Rel.bind (c1 := E) (i := 1) (j := 1) (k := 0) (ih.assign _ _ _ _ _ hl) (fun v v' R1 R1' _ => Rel.bind (c1 := True) (i := 1) (j := 0) (Rel.need _) (fun _ _ R2 R2' _ => Rel.here (fun h => eq_node rfl rfl h.1.2)) (.inl id) (by omega)) (.inr (by omega)) (by omega))) id (by omega)) (fun _ => Rel.fail _ _ _)
    (.inl (by omega))) (.inl (by omega))) (.inl (by omega))

theorem is2_er {s : List UInt8} {t u t' u' : Tok} {X X' : List Tok} (h1 : t.er = t'.er) (h2 : u.er = u'.er) : is2 s (t :: u :: X) = is2 s (t' :: u' :: X') := by
  show (t.kind != 0 && (u.kind == 5 && u.text == s)) = (t'.kind != 0 && (u'.kind == 5 && u'.text == s))
  rw [er_kind h1, er_kind h2, er_text h2]

include ih in
theorem r_pair (hl : lv' ≤ lv) : Rel q p E 1 R R' eqT (pairB (pRun n) lv R) (pairB (pRun n) lv' R') :=
  Rel.weak (Rel.ite2 (k := 2) (f := fun R => !((hd R).kind == 1) || pairKind (hd R).text == 0 || is2 [58] R)
    (fun t u X t' u' X' h1 h2 => by
      show (!(t.kind == 1) || pairKind t.text == 0 || is2 _ _) = (!(t'.kind == 1) || pairKind t'.text == 0 || is2 _ _)
      rw [er_kind h1, er_text h1, is2_er h1 h2])
    (Nat.le_refl _)
    (fun _ => Rel.bind (c1 := True) (i := 1) (j := 1) (ih.key _ _ _ _ _ hl) (fun k k' R1 R1' _ => Rel.bind (c1 := True) (i := 1) (j := 1) (Rel.need _) (fun _ _ R2 R2' _ => Rel.bind (c1 := E) (i := 1) (j := 0) (ih.assign _ _ _ _ _ hl) (fun v v' R3 R3' _ => Rel.here (fun h => eq_node rfl rfl (eq_app h.1.1.2 h.2))) (.inl id) (by omega)) (.inr (by omega)) (by omega)) (.inr (by omega)) (by omega))
    (fun h => Rel.adv (by simp at h; omega) (Rel.bind (c1 := True) (i := 1) (j := 1) (k := 1) (ih.key _ _ _ _ _ hl) (fun k k' R1 R1' _ => Rel.bind (c1 := True) (i := 1) (j := 1) (Rel.need _) (fun _ _ R2 R2' _ => Rel.bind (c1 := True) (i := 0) (j := 1) (eq := eqT)
      (Rel.iteP (fun h => by rw [er_text h.1.1.2]) (fun _ => Rel.bind (c1 := True) (i := 1) (j := 0) (k := 0) Rel.name (fun nm nm' R3 R3' _ => Rel.here (fun h => eq_node h.2 rfl rfl)) (.inl id) (by omega)) (fun _ => Rel.here (fun _ => rfl)))
      (fun ks ks' R3 R3' _ => Rel.bind (c1 := True) (i := 1) (j := 1) (Rel.need _) (fun _ _ R4 R4' _ => Rel.bind (c1 := True) (i := 1) (j := 0) (ih.block _ _ _ _ _ hl) (fun b b' R5 R5' _ => Rel.here (fun h => by
        rw [er_text h.1.1.1.1.1.2]
        exact eq_node rfl rfl (eq_app h.1.1.1.1.2 (eq_node rfl rfl (eq_app h.1.1.2 h.2))))) (.inl (fun _ => trivial)) (by omega)) (.inr (by omega)) (by omega)) (.inr (by omega)) (by omega)) (.inr (by omega)) (by omega)) (.inr (by omega)) (by omega)))) id (by omega)

include ih in
theorem r_let (hl : lv' ≤ lv) (s : List UInt8) (kind : Nat) : Rel q p True 2 R R' eqT (pRun n (.declared lv kind pos (is2 s R)) R) (pRun n (.declared lv' kind pos' (is2 s R')) R') := by
  have e : ∀ (b : Bool) lv pos R, pRun n (.declared lv kind pos b) R = if b then pRun n (.declared lv kind pos true) R else pRun n (.declared lv kind pos false) R := by intro b; cases b <;> intros <;> rfl
  rw [e (is2 s R), e (is2 s R')]
  exact Rel.ite2 (f := fun R => is2 s R) (fun t u X t' u' X' h1 h2 => is2_er h1 h2) (Nat.le_refl _) (fun _ => ih.declared _ _ _ _ _ _ _ _ _ hl) (fun _ => ih.declared _ _ _ _ _ _ _ _ _ hl)

include ih in
theorem r_ret (hl : lv' ≤ lv) (s : List UInt8) (kind : Nat) : Rel q p True 1 R R' eqT (pRun n (.jump lv kind pos (!isTok (hd R) s)) R) (pRun n (.jump lv' kind pos' (!isTok (hd R') s)) R') := by
  have e : ∀ (b : Bool) lv pos R, pRun n (.jump lv kind pos b) R = if b then pRun n (.jump lv kind pos true) R else pRun n (.jump lv kind pos false) R := by intro b; cases b <;> intros <;> rfl
  rw [e (!isTok (hd R) s), e (!isTok (hd R') s)]
  exact Rel.ite (f := fun t => !isTok t s) (fun _ => rfl) (fun _ => ih.jump _ _ _ _ _ _ _ _ _ hl) (fun _ => ih.jump _ _ _ _ _ _ _ _ _ hl) (.inl (by omega))

include hq ih in
theorem r_stmt (hl : lv' ≤ lv) : Rel q p S 1 R R' eqT (stmtB (pRun n) lv R) (stmtB (pRun n) lv' R') :=
  have hT : S → True := fun _ => trivial
  have hl1 : lv' + 1 ≤ lv + 1 := by omega
  Rel.level _ _ _ hl fun _ =>
  Rel.ite (f := fun t => isTok t [123]) (inv_isTok _) (fun _ => (ih.block _ _ _ _ _ hl1).cls hT) (fun _ =>
  Rel.ite (f := fun t => isTok t [59]) (inv_isTok _) (fun h => Rel.okTail (isTok_kind h) (fun _ _ => eq_node rfl rfl rfl)) (fun _ =>
  Rel.ite (f := fun t => !(t.kind == 2)) (fun _ => rfl) (fun _ => ((r_exprS ih hl1).cls hT).weak id (by omega)) (fun _ =>
  Rel.ite (f := fun t => isTok t [108, 101, 116]) (inv_isTok _) (fun h => Rel.weak (Rel.adv (isTok_kind h) ((r_let ih hl1 _ _).cls hT)) id (by omega)) (fun _ =>
  Rel.ite (f := fun t => isTok t [99, 111, 110, 115, 116]) (inv_isTok _) (fun h => Rel.weak (Rel.adv (isTok_kind h) ((ih.declared _ _ _ _ _ _ _ _ _ hl1).cls hT)) id (by omega)) (fun _ =>
  Rel.ite (f := fun t => isTok t [102, 117, 110, 99, 116, 105, 111, 110]) (inv_isTok _) (fun h => Rel.weak (Rel.adv (isTok_kind h) (Rel.bind (c1 := True) (i := 1) (j := 1) (k := 0) Rel.name (fun nm nm' R1 R1' _ => Rel.bind (c1 := True) (i := 1) (j := 0) (ih.rest _ _ _ _ _ hl1) (fun ks ks' R2 R2' _ => Rel.here (fun h => eq_node h.1.2 rfl h.2)) (.inl hT) (by omega)) (.inr (by omega)) (by omega))) id (by omega)) (fun _ =>
  Rel.ite (f := fun t => isTok t [105, 102]) (inv_isTok _) (fun h => Rel.weak (Rel.adv (isTok_kind h) (Rel.bind (c1 := S) (i := 1) (j := 0) (k := 0) (ih.tested _ _ _ _ _ hl1) (fun ks ks' R1 R1' _ => Rel.ite (f := fun t => isTok t [101, 108, 115, 101]) (inv_isTok _)
      (fun h => Rel.weak (Rel.adv (isTok_kind h) (Rel.bind (c1 := S) (i := 1) (j := 0) (k := 0) (ih.body _ _ _ _ _ hl1) (fun v v' R2 R2' _ => Rel.here (fun h => eq_node rfl rfl (eq_app h.1.1.2 h.2))) (.inl id) (by omega))) id (by omega))
      (fun _ => Rel.here (fun h => eq_node rfl rfl h.2)) (.inr hq.else_)) (.inl id) (by omega))) id (by omega)) (fun _ =>
  Rel.ite (f := fun t => isTok t [119, 104, 105, 108, 101]) (inv_isTok _) (fun h => Rel.weak (Rel.adv (isTok_kind h) (Rel.bind (c1 := S) (i := 1) (j := 0) (k := 0) (ih.tested _ _ _ _ _ hl1) (fun ks ks' R1 R1' _ => Rel.here (fun h => eq_node rfl rfl h.2)) (.inl id) (by omega))) id (by omega)) (fun _ =>
  Rel.ite (f := fun t => isTok t [102, 111, 114]) (inv_isTok _) (fun h => Rel.weak (Rel.adv (isTok_kind h) (ih.loop _ _ _ _ _ _ _ hl1)) id (by omega)) (fun _ =>
  Rel.ite (f := fun t => isTok t [114, 101, 116, 117, 114, 110]) (inv_isTok _) (fun h => Rel.weak (Rel.adv (isTok_kind h) ((r_ret ih hl1 _ _).cls hT)) id (by omega)) (fun _ =>
  Rel.ite (f := fun t => isTok t [116, 104, 114, 111, 119]) (inv_isTok _) (fun h => Rel.weak (Rel.adv (isTok_kind h) ((ih.jump _ _ _ _ _ _ _ _ _ hl1).cls hT)) id (by omega)) (fun _ =>
  Rel.ite (f := fun t => isTok t [98, 114, 101, 97, 107]) (inv_isTok _) (fun h => Rel.weak (Rel.adv (isTok_kind h) ((ih.jump _ _ _ _ _ _ _ _ _ hl1).cls hT)) id (by omega)) (fun _ =>
  Rel.ite (f := fun t => isTok t [99, 111, 110, 116, 105, 110, 117, 101]) (inv_isTok _) (fun h => Rel.weak (Rel.adv (isTok_kind h) ((ih.jump _ _ _ _ _ _ _ _ _ hl1).cls hT)) id (by omega)) (fun _ =>
  Rel.ite (f := fun t => isTok t [116, 114, 121]) (inv_isTok _) (fun h => Rel.weak (Rel.adv (isTok_kind h) (ih.try_ _ _ _ _ _ _ _ hl1)) id (by omega)) (fun _ => ((r_exprS ih hl1).cls hT).weak id (by omega))
    (.inl (by omega))) (.inl (by omega))) (.inl (by omega))) (.inl (by omega))) (.inl (by omega))) (.inl (by omega))) (.inl (by omega))) (.inl (by omega))) (.inl (by omega))) (.inl (by omega))) (.inl (by omega))) (.inl (by omega))) (.inl (by omega))) (.inl (by omega))

include hq ih in
theorem ihR_succ : IhR q E S (n + 1) where
  stmts := fun p lv lv' R R' hl => r_stmts ih hl
  stmt := fun p lv lv' R R' hl => r_stmt hq ih hl
  block := fun p lv lv' R R' hl => r_block ih hl
  declared := fun p lv lv' kind pos pos' value R R' hl => r_declared ih kind value hl
  rest := fun p lv lv' R R' hl => r_rest ih hl
  tested := fun p lv lv' R R' hl => r_tested ih hl
  body := fun p lv lv' R R' hl => r_body ih hl
  loop := fun p lv lv' pos pos' R R' hl => r_loop ih hl
  jump := fun p lv lv' kind pos pos' value R R' hl => r_jump ih kind value hl
  try_ := fun p lv lv' pos pos' R R' hl => r_try hq ih hl
  assign := fun p lv lv' R R' hl => r_assign hq ih hl
  cond := fun p lv lv' R R' hl => r_cond hq ih hl
  binary := fun p lv lv' least R R' hl => r_binary ih least hl
  binTail := fun p lv lv' least pos pos' k k' R R' hl hk => r_binTail hq ih least k k' hk hl
  unary := fun p lv lv' R R' hl => r_unary ih hl
  postfix_ := fun p lv lv' calls R R' hl => r_postfix ih calls hl
  postTail := fun p lv lv' calls pos pos' k k' R R' hl hk => r_postTail hq ih calls k k' hk hl
  list := fun p lv lv' e most one m R R' hl => r_list ih e most one m hl
  param := fun p lv lv' R R' hl => r_param
  primary := fun p lv lv' R R' hl => r_primary ih hl
  pair := fun p lv lv' R R' hl => r_pair ih hl
  key := fun p lv lv' R R' hl => r_key ih hl

end

theorem ihR_all {q : Ends} {E S : Prop} (hq : Stops q E S) (n : Nat) : IhR q E S n := by
  induction n with
  | zero =>
    constructor
    all_goals (intros; intro v R1 h; cases h)
  | succ n ih => exact ihR_succ hq ih

end Bf

/- An error of the parser has a number: plain Lean. -/
namespace Bf
namespace PErr

def K {α : Type} (_R : List Tok) (r : Res α) : Prop := ∀ e p, r = .err e p → 0 < e
section
variable {α β : Type} {R : List Tok}
theorem K.fail (e : Nat) (S : List Tok) (he : 0 < e := by decide) : K R (Bf.fail e S : Res α) := fun _ _ h => by cases h; exact he
theorem K.here (a : α) {S : List Tok} : K R (.ok a S) := fun _ _ h => by cases h
theorem K.bind {r : Res α} {f : α → List Tok → Res β} (h : K R r) (g : ∀ a R1, K R1 (f a R1)) : K R (r.bind f) := by
  cases r with
  | ok a R1 =>
    exact g a R1
  | err e p =>
    exact fun v R' e => by cases e; exact h _ _ rfl
  | out =>
    exact fun v R' e => by cases e
theorem K.ite {c : Prop} [Decidable c] {a b : Res α} (h1 : c → K R a) (h2 : ¬ c → K R b) : K R (if c then a else b) := by
  split
  · exact h1 ‹_›
  · exact h2 ‹_›
theorem K.adv {r : Res α} (hk : (hd R).kind ≠ 0) (h : K R.tail r) : K R r := h
theorem K.need (s : List UInt8) : K R (Bf.need s R) := K.ite (fun _ => K.here _) (fun _ => K.fail _ _)
theorem K.name : K R (Bf.name R) := K.ite (fun _ => K.here _) (fun _ => K.fail _ _)
end


section
variable {n : Nat} (ih : ∀ g R, K R (pRun n g R)) (R : List Tok)
include ih

theorem k_step (g : G) : K R (pStep (pRun n) g R) := by
  have hex : ∀ lv pos R, K R (exprS (pRun n) lv pos R) := fun lv pos R => K.bind (ih _ _) fun _ _ => K.bind (K.need _) fun _ _ => K.here _
  cases g with
  | stmts lv top =>
    exact K.ite (fun _ => K.here _) fun _ => K.bind (ih _ _) fun _ _ => K.bind (ih _ _) fun _ _ => K.here _
  | stmt lv =>
    exact K.ite (fun _ => K.fail _ _) fun _ => K.ite (fun _ => ih _ _) fun _ => K.ite (fun h => K.adv (isTok_kind h) (K.here _)) fun _ => K.ite (fun _ => hex _ _ _) fun _ =>
      K.ite (fun h => K.adv (isTok_kind h) (ih _ _)) fun _ => K.ite (fun h => K.adv (isTok_kind h) (ih _ _)) fun _ => K.ite (fun h => K.adv (isTok_kind h) (K.bind K.name fun _ _ => K.bind (ih _ _) fun _ _ => K.here _)) fun _ =>
      K.ite (fun h => K.adv (isTok_kind h) (K.bind (ih _ _) fun _ _ => K.ite (fun h => K.adv (isTok_kind h) (K.bind (ih _ _) fun _ _ => K.here _)) fun _ => K.here _)) fun _ =>
      K.ite (fun h => K.adv (isTok_kind h) (K.bind (ih _ _) fun _ _ => K.here _)) fun _ => K.ite (fun h => K.adv (isTok_kind h) (ih _ _)) fun _ => K.ite (fun h => K.adv (isTok_kind h) (ih _ _)) fun _ => K.ite (fun h => K.adv (isTok_kind h) (ih _ _)) fun _ =>
      K.ite (fun h => K.adv (isTok_kind h) (ih _ _)) fun _ => K.ite (fun h => K.adv (isTok_kind h) (ih _ _)) fun _ => K.ite (fun h => K.adv (isTok_kind h) (ih _ _)) fun _ => hex _ _ _
  | block lv =>
    exact K.bind (K.need _) fun _ _ => K.bind (ih _ _) fun _ _ => K.bind (K.need _) fun _ _ => K.here _
  | declared lv kind pos value =>
    exact K.bind K.name fun _ _ => K.bind (K.ite (fun _ => K.bind (K.need _) fun _ _ => ih _ _) fun _ => K.here _) fun _ _ => K.bind (K.need _) fun _ _ => K.here _
  | rest lv =>
    exact K.bind (K.need _) fun _ _ => K.bind (ih _ _) fun _ _ => K.bind (ih _ _) fun _ _ => K.here _
  | tested lv =>
    exact K.bind (K.need _) fun _ _ => K.bind (ih _ _) fun _ _ => K.bind (K.need _) fun _ _ => K.bind (ih _ _) fun _ _ => K.here _
  | body lv =>
    exact K.ite (fun _ => K.ite (fun _ => K.fail _ _) fun _ => K.fail _ _) fun _ => ih _ _
  | loop lv pos =>
    exact K.bind (K.need _) fun _ _ => K.bind (K.ite (fun h => K.adv (isTok_kind h) (K.here _)) fun _ => K.bind (K.need _) fun _ _ => K.here _) fun _ _ => K.bind K.name fun _ _ =>
      K.bind (K.ite (fun h => K.adv (isTok_kind h) (K.here _)) fun _ => K.ite (fun h => K.adv (by unfold isOf at h; simp at h; omega) (K.here _)) fun _ => K.fail _ _) fun _ _ => K.bind (ih _ _) fun _ _ => K.bind (K.need _) fun _ _ => K.bind (ih _ _) fun _ _ => K.here _
  | jump lv kind pos value =>
    exact K.bind (K.ite (fun _ => ih _ _) fun _ => K.here _) fun _ _ => K.bind (K.need _) fun _ _ => K.here _
  | try_ lv pos =>
    exact K.bind (ih _ _) fun _ _ => K.bind (K.ite (fun h => K.adv (isTok_kind h) (K.bind (K.need _) fun _ _ => K.bind K.name fun _ _ => K.bind (K.need _) fun _ _ => K.bind (ih _ _) fun _ _ => K.here _)) fun _ => K.here _) fun _ _ =>
      K.bind (K.ite (fun h => K.adv (isTok_kind h) (K.bind (ih _ _) fun _ _ => K.here _)) fun _ => K.here _) fun _ _ => K.ite (fun _ => K.fail _ _) fun _ => K.here _
  | assign lv =>
    exact K.ite (fun _ => K.fail _ _) fun _ => K.bind (ih _ _) fun _ _ => K.ite (fun h => K.ite (fun _ => K.fail _ _) fun _ => K.adv (asg_kind h) (K.bind (ih _ _) fun _ _ => K.here _)) fun _ => K.here _
  | cond lv =>
    exact K.bind (ih _ _) fun _ _ => K.ite (fun h => K.adv (isTok_kind h) (K.bind (ih _ _) fun _ _ => K.bind (K.need _) fun _ _ => K.bind (ih _ _) fun _ _ => K.here _)) fun _ => K.here _
  | binary lv least =>
    exact K.bind (ih _ _) fun _ _ => ih _ _
  | binTail lv least pos k =>
    exact K.ite (fun _ => K.here _) fun h => K.adv (tig_kind (least := least) (by simpa using h)) (K.bind (ih _ _) fun _ _ => ih _ _)
  | unary lv =>
    exact K.ite (fun h => K.ite (fun _ => K.fail _ _) fun _ => K.adv (una_kind h) (K.bind (ih _ _) fun _ _ => K.here _)) fun _ => ih _ _
  | postfix_ lv calls =>
    exact K.bind (K.ite (fun h => K.ite (fun _ => K.fail _ _) fun _ => K.adv (isTok_kind h) (K.bind (ih _ _) fun _ _ => K.bind (K.need _) fun _ _ => K.bind (ih _ _) fun _ _ => K.here _)) fun _ => ih _ _) fun _ _ => ih _ _
  | postTail lv calls pos k =>
    exact K.ite (fun h => K.ite (fun _ => K.fail _ _) fun h2 => K.adv (isTok_kind h) (K.adv (by simp at h2; omega) (ih _ _))) fun _ =>
      K.ite (fun h => K.adv (isTok_kind h) (K.bind (ih _ _) fun _ _ => K.bind (K.need _) fun _ _ => ih _ _)) fun _ => K.ite (fun h => K.adv (isTok_kind (s := [40]) (by simp at h; exact h.2)) (K.bind (ih _ _) fun _ _ => ih _ _)) fun _ => K.here _
  | list lv e most one m =>
    exact K.ite (fun h => K.adv (isTok_kind h) (K.here _)) fun _ => K.bind (K.ite (fun _ => K.need _) fun _ => K.here _) fun _ _ => K.ite (fun _ => K.fail _ _) fun _ => K.bind (ih _ _) fun _ _ => K.bind (ih _ _) fun _ _ => K.here _
  | param lv =>
    exact K.bind K.name fun _ _ => K.here _
  | primary lv =>
    exact K.ite (fun h => K.adv (by simp at h; omega) (K.here _)) fun _ => K.ite (fun h => K.adv (by simp at h; omega) (K.here _)) fun _ => K.ite (fun h => K.adv (by simp at h; omega) (K.here _)) fun _ => K.ite (fun h => K.adv (by simp at h; omega) (K.here _)) fun _ =>
      K.ite (fun h => K.adv (isTok_kind h) (K.bind (K.ite (fun _ => K.name) fun _ => K.here _) fun _ _ => K.bind (ih _ _) fun _ _ => K.here _)) fun _ => K.ite (fun h => K.adv (isTok_kind h) (K.bind (ih _ _) fun _ _ => K.bind (K.need _) fun _ _ => K.here _)) fun _ =>
      K.ite (fun h => K.adv (isTok_kind h) (K.bind (ih _ _) fun _ _ => K.here _)) fun _ => K.ite (fun h => K.adv (isTok_kind h) (K.bind (ih _ _) fun _ _ => K.here _)) fun _ => K.fail _ _
  | pair lv =>
    exact K.ite (fun _ => K.bind (ih _ _) fun _ _ => K.bind (K.need _) fun _ _ => K.bind (ih _ _) fun _ _ => K.here _) fun h =>
      K.adv (by simp at h; omega) (K.bind (ih _ _) fun _ _ => K.bind (K.need _) fun _ _ => K.bind (K.ite (fun _ => K.bind K.name fun _ _ => K.here _) fun _ => K.here _) fun _ _ => K.bind (K.need _) fun _ _ => K.bind (ih _ _) fun _ _ => K.here _)
  | key lv =>
    exact K.ite (fun h => K.adv (by simp at h; omega) (K.here _)) fun _ => K.ite (fun _ => ih _ _) fun _ => K.ite (fun h => K.adv (isTok_kind h) (K.bind (ih _ _) fun _ _ => K.bind (K.need _) fun _ _ => K.here _)) fun _ => K.fail _ _
end

theorem all (n : Nat) : ∀ g R, K R (pRun n g R) := by
  induction n with
  | zero => intro g R e p h; cases h
  | succ n ih => intro g R; exact k_step ih R g

end PErr

theorem err_pos {n : Nat} {g : G} {R : List Tok} {e p : Nat} (h : pRun n g R = .err e p) : 0 < e := PErr.all n g R e p h

end Bf

/- A tree has no more nodes than tokens were read: plain Lean. -/
namespace Bf
namespace PSize

def sz1 (v : List T) : Nat := match v with | [] => 1 | t :: ts => t.size + sizeL ts
theorem sz1_le (v : List T) : sizeL v ≤ sz1 v := by cases v <;> simp [sz1, sizeL]
theorem sz1_hd (v : List T) : (v.headD default).size ≤ sz1 v := by cases v <;> simp [sz1, T.size, sizeL, default, instInhabitedT.default]

def Z {α : Type} (m : α → Nat) (L : Nat) (r : Res α) : Prop := ∀ v R', r = .ok v R' → m v + R'.length ≤ L
abbrev z0 {α : Type} : α → Nat := fun _ => 0
section
variable {α β : Type} {L L1 L2 : Nat} {m : α → Nat} {m2 : β → Nat} {R S : List Tok}
theorem Z.fail (e : Nat) (S : List Tok) : Z m L (Bf.fail e S : Res α) := fun _ _ h => by cases h
theorem Z.ok {a : α} (h : m a + S.length ≤ L) : Z m L (.ok a S) := fun _ _ e => by cases e; exact h
theorem Z.bind {r : Res α} {f : α → List Tok → Res β} (h : Z m L1 r) (g : ∀ a R1, m a + R1.length ≤ L1 → Z m2 L (f a R1)) : Z m2 L (r.bind f) := by
  intro v R' e
  cases r with
  | ok a R1 => exact g a R1 (h a R1 rfl) v R' e
  | err x y => cases e
  | out => cases e
theorem Z.ite {c : Prop} [Decidable c] {a b : Res α} (h1 : c → Z m L a) (h2 : ¬ c → Z m L b) : Z m L (if c then a else b) := by
  by_cases h : c
  · rw [if_pos h]; exact h1 h
  · rw [if_neg h]; exact h2 h
theorem Z.adv {r : Res α} (hk : (hd R).kind ≠ 0) (h : R.tail.length + 1 = R.length → Z m L r) : Z m L r := h (tail_len hk)
theorem Z.need (s : List UInt8) : Z z0 (R.length - 1) (Bf.need s R) := Z.ite (fun h => Z.adv (isTok_kind h) fun h => Z.ok (by simp)) (fun _ => Z.fail _ _)
theorem Z.need_pos (s : List UInt8) : Z z0 R.length (Bf.need s R) := Z.ite (fun h => Z.adv (isTok_kind h) fun h => Z.ok (by simp)) (fun _ => Z.fail _ _)
theorem Z.bind1 {r : Res (List T)} {f : List T → List Tok → Res β} (h : Z sz1 L1 r) (g : ∀ a R1, sz1 a + R1.length ≤ L1 → sizeL a ≤ sz1 a → (a.headD default).size ≤ sz1 a → Z m2 L (f a R1)) : Z m2 L (r.bind f) :=
  Z.bind h fun a R1 e => g a R1 e (sz1_le a) (sz1_hd a)
theorem Z.bindN {s : List UInt8} {f : Unit → List Tok → Res β} (g : ∀ a R1, R1.length + 1 ≤ R.length → Z m2 L (f a R1)) : Z m2 L ((Bf.need s R).bind f) := by
  intro v R' e
  unfold Bf.need at e
  by_cases h : isTok (hd R) s = true
  · rw [if_pos h] at e
    exact g () _ (by have := tok_len h; omega) v R' e
  · rw [if_neg h] at e; cases e
theorem Z.bindI {f : List UInt8 → List Tok → Res β} (g : ∀ a R1, R1.length + 1 ≤ R.length → Z m2 L (f a R1)) : Z m2 L ((Bf.name R).bind f) := by
  intro v R' e
  unfold Bf.name at e
  by_cases h : ((hd R).kind == 1) = true
  · rw [if_pos h] at e
    exact g _ _ (by have := kind_len h (by omega); omega) v R' e
  · rw [if_neg h] at e; cases e
theorem Z.weak {r : Res α} (h : Z m L1 r) (hl : L1 ≤ L) : Z m L r := fun v R' e => Nat.le_trans (h v R' e) hl
theorem Z.one {r : Res (List T)} (h : Z sz1 L1 r) (hl : L1 ≤ L) : Z sizeL L r := fun v R' e => Nat.le_trans (Nat.add_le_add_right (sz1_le v) _) (Nat.le_trans (h v R' e) hl)
end

def mG : G → List T → Nat
  | .stmts _ _ => sizeL
  | .rest _ => sizeL
  | .tested _ => sizeL
  | .list _ _ _ _ _ => sizeL
  | _ => sz1
def exG : G → Nat
  | .binTail _ _ _ k => k.size
  | .postTail _ _ _ k => k.size
  | .try_ _ _ => 1
  | _ => 0

section
variable {n : Nat} (ih : ∀ g R, Z (mG g) (R.length + exG g) (pRun n g R)) (R : List Tok)
include ih

theorem z_step (g : G) : Z (mG g) (R.length + exG g) (pStep (pRun n) g R) := by
  have hex : ∀ lv pos R L, R.length ≤ L → Z sz1 L (exprS (pRun n) lv pos R) := fun lv pos R L hL => Z.bind1 (ih (.assign _) _) fun _ _ _ _ _ => Z.bindN fun _ _ _ => Z.ok (by simp only [mG, exG, sizeL, T.size, sizeL_append, sz1, z0, List.nil_append, List.append_nil] at *; omega)
  have hone : ∀ (one : One) lv R, Z sz1 R.length (pRun n (one.g lv) R) := fun one lv R => by
    cases one
    · exact ih (.assign lv) R
    · exact ih (.pair lv) R
    · exact ih (.param lv) R
  cases g with
  | stmts lv top =>
    exact Z.ite (fun _ => Z.ok (by simp only [mG, exG, sizeL, T.size, sizeL_append, sz1, z0, List.nil_append, List.append_nil] at *; omega)) fun _ => Z.bind1 (ih (.stmt _) _) fun _ _ _ _ _ => Z.bind (ih (.stmts _ _) _) fun _ _ _ => Z.ok (by simp only [mG, exG, sizeL, T.size, sizeL_append, sz1, z0, List.nil_append, List.append_nil] at *; omega)
  | stmt lv =>
    exact Z.ite (fun _ => Z.fail _ _) fun _ => Z.ite (fun _ => ih (.block _) _) fun _ => Z.ite (fun h => Z.adv (isTok_kind h) fun _ => Z.ok (by simp only [mG, exG, sizeL, T.size, sizeL_append, sz1, z0, List.nil_append, List.append_nil] at *; omega)) fun _ => Z.ite (fun _ => hex _ _ _ _ (by simp only [mG, exG, sizeL, T.size, sizeL_append, sz1, z0] at *; omega)) fun _ =>
      Z.ite (fun h => Z.adv (isTok_kind h) fun _ => Z.weak (ih (.declared _ _ _ _) _) (by simp only [mG, exG, sizeL, T.size, sizeL_append, sz1, z0] at *; omega)) fun _ => Z.ite (fun h => Z.adv (isTok_kind h) fun _ => Z.weak (ih (.declared _ _ _ _) _) (by simp only [mG, exG, sizeL, T.size, sizeL_append, sz1, z0] at *; omega)) fun _ => Z.ite (fun h => Z.adv (isTok_kind h) fun _ => Z.bindI fun _ _ _ => Z.bind (ih (.rest _) _) fun _ _ _ => Z.ok (by simp only [mG, exG, sizeL, T.size, sizeL_append, sz1, z0, List.nil_append, List.append_nil] at *; omega)) fun _ =>
      Z.ite (fun h => Z.adv (isTok_kind h) fun _ => Z.bind (ih (.tested _) _) fun _ _ _ => Z.ite (fun h => Z.adv (isTok_kind h) fun _ => Z.bind1 (ih (.body _) _) fun _ _ _ _ _ => Z.ok (by simp only [mG, exG, sizeL, T.size, sizeL_append, sz1, z0, List.nil_append, List.append_nil] at *; omega)) fun _ => Z.ok (by simp only [mG, exG, sizeL, T.size, sizeL_append, sz1, z0, List.nil_append, List.append_nil] at *; omega)) fun _ =>
      Z.ite (fun h => Z.adv (isTok_kind h) fun _ => Z.bind (ih (.tested _) _) fun _ _ _ => Z.ok (by simp only [mG, exG, sizeL, T.size, sizeL_append, sz1, z0, List.nil_append, List.append_nil] at *; omega)) fun _ => Z.ite (fun h => Z.adv (isTok_kind h) fun _ => Z.weak (ih (.loop _ _) _) (by simp only [mG, exG, sizeL, T.size, sizeL_append, sz1, z0] at *; omega)) fun _ => Z.ite (fun h => Z.adv (isTok_kind h) fun _ => Z.weak (ih (.jump _ _ _ _) _) (by simp only [mG, exG, sizeL, T.size, sizeL_append, sz1, z0] at *; omega)) fun _ => Z.ite (fun h => Z.adv (isTok_kind h) fun _ => Z.weak (ih (.jump _ _ _ _) _) (by simp only [mG, exG, sizeL, T.size, sizeL_append, sz1, z0] at *; omega)) fun _ =>
      Z.ite (fun h => Z.adv (isTok_kind h) fun _ => Z.weak (ih (.jump _ _ _ _) _) (by simp only [mG, exG, sizeL, T.size, sizeL_append, sz1, z0] at *; omega)) fun _ => Z.ite (fun h => Z.adv (isTok_kind h) fun _ => Z.weak (ih (.jump _ _ _ _) _) (by simp only [mG, exG, sizeL, T.size, sizeL_append, sz1, z0] at *; omega)) fun _ => Z.ite (fun h => Z.adv (isTok_kind h) fun _ => Z.weak (ih (.try_ _ _) _) (by simp only [mG, exG, sizeL, T.size, sizeL_append, sz1, z0] at *; omega)) fun _ => hex _ _ _ _ (by simp only [mG, exG, sizeL, T.size, sizeL_append, sz1, z0] at *; omega)
  | block lv =>
    exact Z.bindN fun _ _ _ => Z.bind (ih (.stmts _ _) _) fun _ _ _ => Z.bindN fun _ _ _ => Z.ok (by simp only [mG, exG, sizeL, T.size, sizeL_append, sz1, z0, List.nil_append, List.append_nil] at *; omega)
  | declared lv kind pos value =>
    exact Z.bindI fun _ R1 _ => Z.bind (m := sizeL) (L1 := R1.length) (Z.ite (fun _ => Z.bindN fun _ _ _ => Z.one (ih (.assign _) _) (by simp only [mG, exG, sizeL, T.size, sizeL_append, sz1, z0] at *; omega)) fun _ => Z.ok (by simp only [mG, exG, sizeL, T.size, sizeL_append, sz1, z0, List.nil_append, List.append_nil] at *; omega)) fun _ _ _ => Z.bindN fun _ _ _ => Z.ok (by simp only [mG, exG, sizeL, T.size, sizeL_append, sz1, z0, List.nil_append, List.append_nil] at *; omega)
  | rest lv =>
    exact Z.bindN fun _ _ _ => Z.bind (ih (.list _ _ _ _ _) _) fun _ _ _ => Z.bind1 (ih (.block _) _) fun _ _ _ _ _ => Z.ok (by simp only [mG, exG, sizeL, T.size, sizeL_append, sz1, z0, List.nil_append, List.append_nil] at *; omega)
  | tested lv =>
    exact Z.bindN fun _ _ _ => Z.bind1 (ih (.assign _) _) fun _ _ _ _ _ => Z.bindN fun _ _ _ => Z.bind1 (ih (.body _) _) fun _ _ _ _ _ => Z.ok (by simp only [mG, exG, sizeL, T.size, sizeL_append, sz1, z0, List.nil_append, List.append_nil] at *; omega)
  | body lv =>
    exact Z.ite (fun _ => Z.ite (fun _ => Z.fail _ _) fun _ => Z.fail _ _) fun _ => ih (.stmt _) _
  | loop lv pos =>
    exact Z.bindN fun _ R1 _ => Z.bind (m := z0) (L1 := R1.length - 1) (Z.ite (fun h => Z.adv (isTok_kind h) fun _ => Z.ok (by simp only [mG, exG, sizeL, T.size, sizeL_append, sz1, z0, List.nil_append, List.append_nil] at *; omega)) fun _ => Z.bindN fun _ _ _ => Z.ok (by simp only [mG, exG, sizeL, T.size, sizeL_append, sz1, z0, List.nil_append, List.append_nil] at *; omega)) fun _ _ _ => Z.bindI fun _ R2 _ =>
      Z.bind (m := z0) (L1 := R2.length) (Z.ite (fun h => Z.adv (isTok_kind h) fun _ => Z.ok (by simp only [mG, exG, sizeL, T.size, sizeL_append, sz1, z0, List.nil_append, List.append_nil] at *; omega)) fun _ => Z.ite (fun h => Z.adv (R := R2) (by unfold isOf at h; simp at h; omega) fun _ => Z.ok (by simp only [mG, exG, sizeL, T.size, sizeL_append, sz1, z0, List.nil_append, List.append_nil] at *; omega)) fun _ => Z.fail _ _) fun _ _ _ => Z.bind1 (ih (.assign _) _) fun _ _ _ _ _ => Z.bindN fun _ _ _ => Z.bind1 (ih (.body _) _) fun _ _ _ _ _ => Z.ok (by simp only [mG, exG, sizeL, T.size, sizeL_append, sz1, z0, List.nil_append, List.append_nil] at *; omega)
  | jump lv kind pos value =>
    exact Z.bind (m := sizeL) (L1 := R.length) (Z.ite (fun _ => Z.one (ih (.assign _) _) (by simp only [mG, exG, sizeL, T.size, sizeL_append, sz1, z0] at *; omega)) fun _ => Z.ok (by simp only [mG, exG, sizeL, T.size, sizeL_append, sz1, z0, List.nil_append, List.append_nil] at *; omega)) fun _ _ _ => Z.bindN fun _ _ _ => Z.ok (by simp only [mG, exG, sizeL, T.size, sizeL_append, sz1, z0, List.nil_append, List.append_nil] at *; omega)
  | try_ lv pos =>
    refine Z.bind1 (ih (.block _) _) fun b r0 h1 h2 _ => Z.bind (m := sizeL) (L1 := r0.length) (Z.ite (fun h => Z.adv (isTok_kind h) fun _ => Z.bindN fun _ _ _ => Z.bindI fun _ _ _ => Z.bindN fun _ _ _ => Z.bind1 (ih (.block _) _) fun _ _ _ _ _ => Z.ok (by simp only [mG, exG, sizeL, T.size, sizeL_append, sz1, z0, List.nil_append, List.append_nil] at *; omega)) fun _ => Z.ok (by simp only [mG, exG, sizeL, T.size, sizeL_append, sz1, z0, List.nil_append, List.append_nil] at *; omega)) fun c r1 h3 =>
      Z.bind (m := sizeL) (L1 := r1.length) (Z.ite (fun h => Z.adv (isTok_kind h) fun _ => Z.bind1 (ih (.block _) _) fun _ _ _ _ _ => Z.ok (by simp only [mG, exG, sizeL, T.size, sizeL_append, sz1, z0, List.nil_append, List.append_nil] at *; omega)) fun _ => Z.ok (by simp only [mG, exG, sizeL, T.size, sizeL_append, sz1, z0, List.nil_append, List.append_nil] at *; omega)) fun f r2 h4 => Z.ite (fun _ => Z.fail _ _) fun _ => Z.ok (by simp only [mG, exG, sizeL, T.size, sizeL_append, sz1, z0, List.nil_append, List.append_nil] at *; omega)
  | assign lv =>
    exact Z.ite (fun _ => Z.fail _ _) fun _ => Z.bind1 (ih (.cond _) _) fun _ _ _ _ _ => Z.ite (fun h => Z.ite (fun _ => Z.fail _ _) fun _ => Z.adv (asg_kind h) fun _ => Z.bind1 (ih (.assign _) _) fun _ _ _ _ _ => Z.ok (by simp only [mG, exG, sizeL, T.size, sizeL_append, sz1, z0, List.nil_append, List.append_nil] at *; omega)) fun _ => Z.ok (by simp only [mG, exG, sizeL, T.size, sizeL_append, sz1, z0, List.nil_append, List.append_nil] at *; omega)
  | cond lv =>
    exact Z.bind1 (ih (.binary _ _) _) fun _ _ _ _ _ => Z.ite (fun h => Z.adv (isTok_kind h) fun _ => Z.bind1 (ih (.assign _) _) fun _ _ _ _ _ => Z.bindN fun _ _ _ => Z.bind1 (ih (.assign _) _) fun _ _ _ _ _ => Z.ok (by simp only [mG, exG, sizeL, T.size, sizeL_append, sz1, z0, List.nil_append, List.append_nil] at *; omega)) fun _ => Z.ok (by simp only [mG, exG, sizeL, T.size, sizeL_append, sz1, z0, List.nil_append, List.append_nil] at *; omega)
  | binary lv least =>
    exact Z.bind1 (ih (.unary _) _) fun _ _ _ _ _ => Z.weak (ih (.binTail _ _ _ _) _) (by simp only [mG, exG, sizeL, T.size, sizeL_append, sz1, z0] at *; omega)
  | binTail lv least pos k =>
    exact Z.ite (fun _ => Z.ok (by simp only [mG, exG, sizeL, T.size, sizeL_append, sz1, z0, List.nil_append, List.append_nil] at *; omega)) fun h => Z.adv (tig_kind (least := least) (by simpa using h)) fun _ => Z.bind1 (ih (.binary _ _) _) fun _ _ _ _ _ => Z.weak (ih (.binTail _ _ _ _) _) (by simp only [mG, exG, sizeL, T.size, sizeL_append, sz1, z0] at *; omega)
  | unary lv =>
    exact Z.ite (fun h => Z.ite (fun _ => Z.fail _ _) fun _ => Z.adv (una_kind h) fun _ => Z.bind1 (ih (.unary _) _) fun _ _ _ _ _ => Z.ok (by simp only [mG, exG, sizeL, T.size, sizeL_append, sz1, z0, List.nil_append, List.append_nil] at *; omega)) fun _ => ih (.postfix_ _ _) _
  | postfix_ lv calls =>
    exact Z.bind1 (L1 := R.length) (Z.ite (fun h => Z.ite (fun _ => Z.fail _ _) fun _ => Z.adv (isTok_kind h) fun _ => Z.bind1 (ih (.postfix_ _ _) _) fun _ _ _ _ _ => Z.bindN fun _ _ _ => Z.bind (ih (.list _ _ _ _ _) _) fun _ _ _ => Z.ok (by simp only [mG, exG, sizeL, T.size, sizeL_append, sz1, z0, List.nil_append, List.append_nil] at *; omega)) fun _ => ih (.primary _) _) fun _ _ _ _ _ => Z.weak (ih (.postTail _ _ _ _) _) (by simp only [mG, exG, sizeL, T.size, sizeL_append, sz1, z0] at *; omega)
  | postTail lv calls pos k =>
    exact Z.ite (fun h => Z.ite (fun _ => Z.fail _ _) fun h2 => Z.adv (isTok_kind h) fun _ => Z.adv (R := R.tail) (by simp at h2; omega) fun _ => Z.weak (ih (.postTail _ _ _ _) _) (by simp only [mG, exG, sizeL, T.size, sizeL_append, sz1, z0] at *; omega)) fun _ =>
      Z.ite (fun h => Z.adv (isTok_kind h) fun _ => Z.bind1 (ih (.assign _) _) fun _ _ _ _ _ => Z.bindN fun _ _ _ => Z.weak (ih (.postTail _ _ _ _) _) (by simp only [mG, exG, sizeL, T.size, sizeL_append, sz1, z0] at *; omega)) fun _ => Z.ite (fun h => Z.adv (isTok_kind (s := [40]) (by simp at h; exact h.2)) fun _ => Z.bind (ih (.list _ _ _ _ _) _) fun _ _ _ => Z.weak (ih (.postTail _ _ _ _) _) (by simp only [mG, exG, sizeL, T.size, sizeL_append, sz1, z0] at *; omega)) fun _ => Z.ok (by simp only [mG, exG, sizeL, T.size, sizeL_append, sz1, z0, List.nil_append, List.append_nil] at *; omega)
  | list lv e most one m =>
    exact Z.ite (fun h => Z.adv (isTok_kind h) fun _ => Z.ok (by simp only [mG, exG, sizeL, T.size, sizeL_append, sz1, z0, List.nil_append, List.append_nil] at *; omega)) fun _ => Z.bind (m := z0) (L1 := R.length) (Z.ite (fun _ => Z.need_pos _) fun _ => Z.ok (by simp only [mG, exG, sizeL, T.size, sizeL_append, sz1, z0, List.nil_append, List.append_nil] at *; omega)) fun _ _ _ => Z.ite (fun _ => Z.fail _ _) fun _ => Z.bind1 (hone _ _ _) fun _ _ _ _ _ => Z.bind (ih (.list _ _ _ _ _) _) fun _ _ _ => Z.ok (by simp only [mG, exG, sizeL, T.size, sizeL_append, sz1, z0, List.nil_append, List.append_nil] at *; omega)
  | param lv =>
    exact Z.bindI fun _ _ _ => Z.ok (by simp only [mG, exG, sizeL, T.size, sizeL_append, sz1, z0, List.nil_append, List.append_nil] at *; omega)
  | primary lv =>
    exact Z.ite (fun h => Z.adv (R := R) (by simp at h; omega) fun _ => Z.ok (by simp only [mG, exG, sizeL, T.size, sizeL_append, sz1, z0, List.nil_append, List.append_nil] at *; omega)) fun _ => Z.ite (fun h => Z.adv (R := R) (by simp at h; omega) fun _ => Z.ok (by simp only [mG, exG, sizeL, T.size, sizeL_append, sz1, z0, List.nil_append, List.append_nil] at *; omega)) fun _ => Z.ite (fun h => Z.adv (R := R) (by simp at h; omega) fun _ => Z.ok (by simp only [mG, exG, sizeL, T.size, sizeL_append, sz1, z0, List.nil_append, List.append_nil] at *; omega)) fun _ => Z.ite (fun h => Z.adv (R := R) (by simp at h; omega) fun _ => Z.ok (by simp only [mG, exG, sizeL, T.size, sizeL_append, sz1, z0, List.nil_append, List.append_nil] at *; omega)) fun _ =>
      Z.ite (fun h => Z.adv (isTok_kind h) fun _ => Z.bind (m := z0) (L1 := R.tail.length) (Z.ite (fun h => Z.weak (L1 := R.tail.length) (fun v R' e => by have := (Good.name R.tail).2 v R' e; simp; omega) (Nat.le_refl _)) fun _ => Z.ok (by simp only [mG, exG, sizeL, T.size, sizeL_append, sz1, z0, List.nil_append, List.append_nil] at *; omega)) fun _ _ _ => Z.bind (ih (.rest _) _) fun _ _ _ => Z.ok (by simp only [mG, exG, sizeL, T.size, sizeL_append, sz1, z0, List.nil_append, List.append_nil] at *; omega)) fun _ => Z.ite (fun h => Z.adv (isTok_kind h) fun _ => Z.bind1 (ih (.assign _) _) fun _ _ _ _ _ => Z.bindN fun _ _ _ => Z.ok (by simp only [mG, exG, sizeL, T.size, sizeL_append, sz1, z0, List.nil_append, List.append_nil] at *; omega)) fun _ =>
      Z.ite (fun h => Z.adv (isTok_kind h) fun _ => Z.bind (ih (.list _ _ _ _ _) _) fun _ _ _ => Z.ok (by simp only [mG, exG, sizeL, T.size, sizeL_append, sz1, z0, List.nil_append, List.append_nil] at *; omega)) fun _ => Z.ite (fun h => Z.adv (isTok_kind h) fun _ => Z.bind (ih (.list _ _ _ _ _) _) fun _ _ _ => Z.ok (by simp only [mG, exG, sizeL, T.size, sizeL_append, sz1, z0, List.nil_append, List.append_nil] at *; omega)) fun _ => Z.fail _ _
  | pair lv =>
    exact Z.ite (fun _ => Z.bind1 (ih (.key _) _) fun _ _ _ _ _ => Z.bindN fun _ _ _ => Z.bind1 (ih (.assign _) _) fun _ _ _ _ _ => Z.ok (by simp only [mG, exG, sizeL, T.size, sizeL_append, sz1, z0, List.nil_append, List.append_nil] at *; omega)) fun h =>
      Z.adv (R := R) (by simp at h; omega) fun _ => Z.bind1 (ih (.key _) _) fun _ _ _ _ _ => Z.bindN fun _ R2 _ => Z.bind (m := sizeL) (L1 := R2.length) (Z.ite (fun _ => Z.bindI fun _ _ _ => Z.ok (by simp only [mG, exG, sizeL, T.size, sizeL_append, sz1, z0, List.nil_append, List.append_nil] at *; omega)) fun _ => Z.ok (by simp only [mG, exG, sizeL, T.size, sizeL_append, sz1, z0, List.nil_append, List.append_nil] at *; omega)) fun _ _ _ => Z.bindN fun _ _ _ => Z.bind1 (ih (.block _) _) fun _ _ _ _ _ => Z.ok (by simp only [mG, exG, sizeL, T.size, sizeL_append, sz1, z0, List.nil_append, List.append_nil] at *; omega)
  | key lv =>
    exact Z.ite (fun h => Z.adv (R := R) (by simp at h; omega) fun _ => Z.ok (by simp only [mG, exG, sizeL, T.size, sizeL_append, sz1, z0, List.nil_append, List.append_nil] at *; omega)) fun _ => Z.ite (fun _ => ih (.primary _) _) fun _ => Z.ite (fun h => Z.adv (isTok_kind h) fun _ => Z.bind1 (ih (.assign _) _) fun _ _ _ _ _ => Z.bindN fun _ _ _ => Z.ok (by simp only [mG, exG, sizeL, T.size, sizeL_append, sz1, z0, List.nil_append, List.append_nil] at *; omega)) fun _ => Z.fail _ _
end

theorem all (n : Nat) : ∀ g R, Z (mG g) (R.length + exG g) (pRun n g R) := by
  induction n with
  | zero => intro g R v R' h; cases h
  | succ n ih => intro g R; exact z_step ih R g

end PSize

theorem stmts_size {n lv : Nat} {top : Bool} {R R' : List Tok} {ts : List T} (h : pRun n (.stmts lv top) R = .ok ts R') : sizeL ts + R'.length ≤ R.length := PSize.all n _ R ts R' h

end Bf

/- The end is never read over: plain Lean. -/
namespace Bf

/-- What is left stands behind tokens that are no end. -/
def Kp (R R' : List Tok) : Prop := ∃ P : List Tok, R = P ++ R' ∧ ∀ t ∈ P, t.kind ≠ 0
theorem Kp.refl (R : List Tok) : Kp R R := ⟨[], rfl, by simp⟩
theorem Kp.trans {A B C : List Tok} (h : Kp A B) (g : Kp B C) : Kp A C := by
  obtain ⟨P, rfl, hp⟩ := h
  obtain ⟨Q, rfl, hq⟩ := g
  exact ⟨P ++ Q, by simp, fun t ht => (List.mem_append.1 ht).elim (hp t) (hq t)⟩

def K {α : Type} (R : List Tok) (r : Res α) : Prop := ∀ v R', r = .ok v R' → Kp R R'
section
variable {α β : Type} {R : List Tok}
theorem K.fail (e : Nat) (S : List Tok) : K R (Bf.fail e S : Res α) := fun _ _ h => by cases h
theorem K.here (a : α) : K R (.ok a R) := fun _ _ h => by cases h; exact Kp.refl _
theorem K.bind {r : Res α} {f : α → List Tok → Res β} (h : K R r) (g : ∀ a R1, K R1 (f a R1)) : K R (r.bind f) := by
  cases r with
  | ok a R1 =>
    exact fun v R' e => (h a R1 rfl).trans (g a R1 v R' e)
  | err e p =>
    exact fun v R' e => by cases e
  | out =>
    exact fun v R' e => by cases e
theorem K.ite {c : Prop} [Decidable c] {a b : Res α} (h1 : c → K R a) (h2 : ¬ c → K R b) : K R (if c then a else b) := by
  split
  · exact h1 ‹_›
  · exact h2 ‹_›
theorem K.adv {r : Res α} (hk : (hd R).kind ≠ 0) (h : K R.tail r) : K R r := fun v R' e => by
  cases R with
  | nil =>
    exact absurd rfl hk
  | cons t R =>
    exact Kp.trans ⟨[t], rfl, by intro u hu; rw [List.mem_singleton] at hu; subst hu; exact hk⟩ (h v R' e)
theorem K.need (s : List UInt8) : K R (need s R) := K.ite (fun h => K.adv (isTok_kind h) (K.here _)) (fun _ => K.fail _ _)
theorem K.name : K R (name R) := K.ite (fun h => K.adv (by simp at h; omega) (K.here _)) (fun _ => K.fail _ _)
end

structure IhK (n : Nat) : Prop where
  all : ∀ g R, K R (pRun n g R)

section
variable {n : Nat} (ih : ∀ g R, K R (pRun n g R)) (R : List Tok)
include ih

theorem k_step (g : G) : K R (pStep (pRun n) g R) := by
  have hex : ∀ lv pos R, K R (exprS (pRun n) lv pos R) := fun lv pos R => K.bind (ih _ _) fun _ _ => K.bind (K.need _) fun _ _ => K.here _
  cases g with
  | stmts lv top =>
    exact K.ite (fun _ => K.here _) fun _ => K.bind (ih _ _) fun _ _ => K.bind (ih _ _) fun _ _ => K.here _
  | stmt lv =>
    exact K.ite (fun _ => K.fail _ _) fun _ => K.ite (fun _ => ih _ _) fun _ => K.ite (fun h => K.adv (isTok_kind h) (K.here _)) fun _ => K.ite (fun _ => hex _ _ _) fun _ =>
      K.ite (fun h => K.adv (isTok_kind h) (ih _ _)) fun _ => K.ite (fun h => K.adv (isTok_kind h) (ih _ _)) fun _ => K.ite (fun h => K.adv (isTok_kind h) (K.bind K.name fun _ _ => K.bind (ih _ _) fun _ _ => K.here _)) fun _ =>
      K.ite (fun h => K.adv (isTok_kind h) (K.bind (ih _ _) fun _ _ => K.ite (fun h => K.adv (isTok_kind h) (K.bind (ih _ _) fun _ _ => K.here _)) fun _ => K.here _)) fun _ =>
      K.ite (fun h => K.adv (isTok_kind h) (K.bind (ih _ _) fun _ _ => K.here _)) fun _ => K.ite (fun h => K.adv (isTok_kind h) (ih _ _)) fun _ => K.ite (fun h => K.adv (isTok_kind h) (ih _ _)) fun _ => K.ite (fun h => K.adv (isTok_kind h) (ih _ _)) fun _ =>
      K.ite (fun h => K.adv (isTok_kind h) (ih _ _)) fun _ => K.ite (fun h => K.adv (isTok_kind h) (ih _ _)) fun _ => K.ite (fun h => K.adv (isTok_kind h) (ih _ _)) fun _ => hex _ _ _
  | block lv =>
    exact K.bind (K.need _) fun _ _ => K.bind (ih _ _) fun _ _ => K.bind (K.need _) fun _ _ => K.here _
  | declared lv kind pos value =>
    exact K.bind K.name fun _ _ => K.bind (K.ite (fun _ => K.bind (K.need _) fun _ _ => ih _ _) fun _ => K.here _) fun _ _ => K.bind (K.need _) fun _ _ => K.here _
  | rest lv =>
    exact K.bind (K.need _) fun _ _ => K.bind (ih _ _) fun _ _ => K.bind (ih _ _) fun _ _ => K.here _
  | tested lv =>
    exact K.bind (K.need _) fun _ _ => K.bind (ih _ _) fun _ _ => K.bind (K.need _) fun _ _ => K.bind (ih _ _) fun _ _ => K.here _
  | body lv =>
    exact K.ite (fun _ => K.ite (fun _ => K.fail _ _) fun _ => K.fail _ _) fun _ => ih _ _
  | loop lv pos =>
    exact K.bind (K.need _) fun _ _ => K.bind (K.ite (fun h => K.adv (isTok_kind h) (K.here _)) fun _ => K.bind (K.need _) fun _ _ => K.here _) fun _ _ => K.bind K.name fun _ _ =>
      K.bind (K.ite (fun h => K.adv (isTok_kind h) (K.here _)) fun _ => K.ite (fun h => K.adv (by unfold isOf at h; simp at h; omega) (K.here _)) fun _ => K.fail _ _) fun _ _ => K.bind (ih _ _) fun _ _ => K.bind (K.need _) fun _ _ => K.bind (ih _ _) fun _ _ => K.here _
  | jump lv kind pos value =>
    exact K.bind (K.ite (fun _ => ih _ _) fun _ => K.here _) fun _ _ => K.bind (K.need _) fun _ _ => K.here _
  | try_ lv pos =>
    exact K.bind (ih _ _) fun _ _ => K.bind (K.ite (fun h => K.adv (isTok_kind h) (K.bind (K.need _) fun _ _ => K.bind K.name fun _ _ => K.bind (K.need _) fun _ _ => K.bind (ih _ _) fun _ _ => K.here _)) fun _ => K.here _) fun _ _ =>
      K.bind (K.ite (fun h => K.adv (isTok_kind h) (K.bind (ih _ _) fun _ _ => K.here _)) fun _ => K.here _) fun _ _ => K.ite (fun _ => K.fail _ _) fun _ => K.here _
  | assign lv =>
    exact K.ite (fun _ => K.fail _ _) fun _ => K.bind (ih _ _) fun _ _ => K.ite (fun h => K.ite (fun _ => K.fail _ _) fun _ => K.adv (asg_kind h) (K.bind (ih _ _) fun _ _ => K.here _)) fun _ => K.here _
  | cond lv =>
    exact K.bind (ih _ _) fun _ _ => K.ite (fun h => K.adv (isTok_kind h) (K.bind (ih _ _) fun _ _ => K.bind (K.need _) fun _ _ => K.bind (ih _ _) fun _ _ => K.here _)) fun _ => K.here _
  | binary lv least =>
    exact K.bind (ih _ _) fun _ _ => ih _ _
  | binTail lv least pos k =>
    exact K.ite (fun _ => K.here _) fun h => K.adv (tig_kind (least := least) (by simpa using h)) (K.bind (ih _ _) fun _ _ => ih _ _)
  | unary lv =>
    exact K.ite (fun h => K.ite (fun _ => K.fail _ _) fun _ => K.adv (una_kind h) (K.bind (ih _ _) fun _ _ => K.here _)) fun _ => ih _ _
  | postfix_ lv calls =>
    exact K.bind (K.ite (fun h => K.ite (fun _ => K.fail _ _) fun _ => K.adv (isTok_kind h) (K.bind (ih _ _) fun _ _ => K.bind (K.need _) fun _ _ => K.bind (ih _ _) fun _ _ => K.here _)) fun _ => ih _ _) fun _ _ => ih _ _
  | postTail lv calls pos k =>
    exact K.ite (fun h => K.ite (fun _ => K.fail _ _) fun h2 => K.adv (isTok_kind h) (K.adv (by simp at h2; omega) (ih _ _))) fun _ =>
      K.ite (fun h => K.adv (isTok_kind h) (K.bind (ih _ _) fun _ _ => K.bind (K.need _) fun _ _ => ih _ _)) fun _ => K.ite (fun h => K.adv (isTok_kind (s := [40]) (by simp at h; exact h.2)) (K.bind (ih _ _) fun _ _ => ih _ _)) fun _ => K.here _
  | list lv e most one m =>
    exact K.ite (fun h => K.adv (isTok_kind h) (K.here _)) fun _ => K.bind (K.ite (fun _ => K.need _) fun _ => K.here _) fun _ _ => K.ite (fun _ => K.fail _ _) fun _ => K.bind (ih _ _) fun _ _ => K.bind (ih _ _) fun _ _ => K.here _
  | param lv =>
    exact K.bind K.name fun _ _ => K.here _
  | primary lv =>
    exact K.ite (fun h => K.adv (by simp at h; omega) (K.here _)) fun _ => K.ite (fun h => K.adv (by simp at h; omega) (K.here _)) fun _ => K.ite (fun h => K.adv (by simp at h; omega) (K.here _)) fun _ => K.ite (fun h => K.adv (by simp at h; omega) (K.here _)) fun _ =>
      K.ite (fun h => K.adv (isTok_kind h) (K.bind (K.ite (fun _ => K.name) fun _ => K.here _) fun _ _ => K.bind (ih _ _) fun _ _ => K.here _)) fun _ => K.ite (fun h => K.adv (isTok_kind h) (K.bind (ih _ _) fun _ _ => K.bind (K.need _) fun _ _ => K.here _)) fun _ =>
      K.ite (fun h => K.adv (isTok_kind h) (K.bind (ih _ _) fun _ _ => K.here _)) fun _ => K.ite (fun h => K.adv (isTok_kind h) (K.bind (ih _ _) fun _ _ => K.here _)) fun _ => K.fail _ _
  | pair lv =>
    exact K.ite (fun _ => K.bind (ih _ _) fun _ _ => K.bind (K.need _) fun _ _ => K.bind (ih _ _) fun _ _ => K.here _) fun h =>
      K.adv (by simp at h; omega) (K.bind (ih _ _) fun _ _ => K.bind (K.need _) fun _ _ => K.bind (K.ite (fun _ => K.bind K.name fun _ _ => K.here _) fun _ => K.here _) fun _ _ => K.bind (K.need _) fun _ _ => K.bind (ih _ _) fun _ _ => K.here _)
  | key lv =>
    exact K.ite (fun h => K.adv (by simp at h; omega) (K.here _)) fun _ => K.ite (fun _ => ih _ _) fun _ => K.ite (fun h => K.adv (isTok_kind h) (K.bind (ih _ _) fun _ _ => K.bind (K.need _) fun _ _ => K.here _)) fun _ => K.fail _ _
end

theorem keep (n : Nat) : ∀ g R, K R (pRun n g R) := by
  induction n with
  | zero => intro g R v R' h; cases h
  | succ n ih => intro g R; exact k_step ih R g

end Bf

/- Two scripts one behind the other: plain Lean. -/
namespace Bf

def BadW (t : Tok) : Prop := (t.kind = 2 ∨ t.kind = 5) ∧ (t.text = [101, 108, 115, 101] ∨ t.text = [99, 97, 116, 99, 104] ∨ t.text = [102, 105, 110, 97, 108, 108, 121])

section
variable {R : List Tok} (h : BadW (hd R))
include h
theorem no_tok (s : List UInt8) (hs : [101, 108, 115, 101] ≠ s ∧ [99, 97, 116, 99, 104] ≠ s ∧ [102, 105, 110, 97, 108, 108, 121] ≠ s) : isTok (hd R) s = false := by
  obtain ⟨_, ht⟩ := h
  unfold isTok
  rcases ht with e | e | e <;> rw [e] <;> simp <;> intro e2 <;> simp_all
theorem no_kind (k : Nat) (hk : k ≠ 2 ∧ k ≠ 5) : ((hd R).kind == k) = false := by
  rcases h.1 with e | e <;> rw [e] <;> simp <;> omega
theorem no_simple : simple (hd R).text = 0 := by
  rcases h.2 with e | e | e <;> rw [e] <;> decide

theorem no_primary (n lv : Nat) (v : List T) (R1 : List Tok) : pRun n (.primary lv) R ≠ .ok v R1 := by
  cases n with
  | zero => intro e; cases e
  | succ n =>
    intro e
    simp only [pRun, pStep, primaryB, no_kind h 3 (by omega), no_kind h 4 (by omega), no_kind h 1 (by omega), no_simple h, no_tok h [102, 117, 110, 99, 116, 105, 111, 110] (by decide), no_tok h [40] (by decide), no_tok h [91] (by decide), no_tok h [123] (by decide), Bool.false_eq_true, if_false] at e
    simp [fail] at e
theorem no_postfix (n lv : Nat) (calls : Bool) (v : List T) (R1 : List Tok) : pRun n (.postfix_ lv calls) R ≠ .ok v R1 := by
  cases n with
  | zero => intro e; cases e
  | succ n =>
    intro e
    simp only [pRun, pStep, postfixB, no_tok h [110, 101, 119] (by decide), Bool.false_eq_true, if_false] at e
    cases hp : pRun n (.primary lv) R with
    | ok a R2 => exact no_primary h n lv a R2 hp
    | err x y => rw [hp] at e; cases e
    | out => rw [hp] at e; cases e
theorem no_unary (n lv : Nat) (v : List T) (R1 : List Tok) : pRun n (.unary lv) R ≠ .ok v R1 := by
  cases n with
  | zero => intro e; cases e
  | succ n =>
    intro e
    have hu : isUnary (hd R) = false := by
      unfold isUnary
      rw [List.any_eq_false]
      intro s hs
      have : ∀ s ∈ unaries, [101, 108, 115, 101] ≠ s ∧ [99, 97, 116, 99, 104] ≠ s ∧ [102, 105, 110, 97, 108, 108, 121] ≠ s := by decide
      rw [no_tok h s (this s hs)]
      decide
    simp only [pRun, pStep, unaryB, hu, Bool.false_eq_true, if_false] at e
    exact no_postfix h n lv true v R1 e
theorem no_binary (n lv least : Nat) (v : List T) (R1 : List Tok) : pRun n (.binary lv least) R ≠ .ok v R1 := by
  cases n with
  | zero => intro e; cases e
  | succ n =>
    intro e
    simp only [pRun, pStep, binaryB] at e
    cases hp : pRun n (.unary lv) R with
    | ok a R2 => exact no_unary h n lv a R2 hp
    | err x y => rw [hp] at e; cases e
    | out => rw [hp] at e; cases e
theorem no_cond (n lv : Nat) (v : List T) (R1 : List Tok) : pRun n (.cond lv) R ≠ .ok v R1 := by
  cases n with
  | zero => intro e; cases e
  | succ n =>
    intro e
    simp only [pRun, pStep, condB] at e
    cases hp : pRun n (.binary lv 3) R with
    | ok a R2 => exact no_binary h n lv 3 a R2 hp
    | err x y => rw [hp] at e; cases e
    | out => rw [hp] at e; cases e
theorem no_assign (n lv : Nat) (v : List T) (R1 : List Tok) : pRun n (.assign lv) R ≠ .ok v R1 := by
  cases n with
  | zero => intro e; cases e
  | succ n =>
    intro e
    simp only [pRun, pStep, assignB] at e
    split at e
    · simp [fail] at e
    · cases hp : pRun n (.cond (lv + 1)) R with
      | ok a R2 => exact no_cond h n _ a R2 hp
      | err x y => rw [hp] at e; cases e
      | out => rw [hp] at e; cases e
theorem no_exprS (n lv pos : Nat) (v : List T) (R1 : List Tok) : exprS (pRun n) lv pos R ≠ .ok v R1 := by
  intro e
  unfold exprS at e
  cases hp : pRun n (.assign lv) R with
  | ok a R2 => exact no_assign h n _ a R2 hp
  | err x y => rw [hp] at e; cases e
  | out => rw [hp] at e; cases e
theorem no_stmt (n lv : Nat) (v : List T) (R1 : List Tok) : pRun n (.stmt lv) R ≠ .ok v R1 := by
  cases n with
  | zero => intro e; cases e
  | succ n =>
    intro e
    simp only [pRun, pStep, stmtB, no_tok h [123] (by decide), no_tok h [59] (by decide), no_tok h [108, 101, 116] (by decide), no_tok h [99, 111, 110, 115, 116] (by decide), no_tok h [102, 117, 110, 99, 116, 105, 111, 110] (by decide), no_tok h [105, 102] (by decide), no_tok h [119, 104, 105, 108, 101] (by decide), no_tok h [102, 111, 114] (by decide),
      no_tok h [114, 101, 116, 117, 114, 110] (by decide), no_tok h [116, 104, 114, 111, 119] (by decide), no_tok h [98, 114, 101, 97, 107] (by decide), no_tok h [99, 111, 110, 116, 105, 110, 117, 101] (by decide), no_tok h [116, 114, 121] (by decide), Bool.false_eq_true, if_false] at e
    split at e
    · simp [fail] at e
    · split at e
      · exact no_exprS h _ _ _ _ _ e
      · exact no_exprS h _ _ _ _ _ e
end

/-- What stands at the head of a script that went well. -/
theorem head_ok {m : Nat} {Z : List Tok} {u : List T} {R2 : List Tok} (h : pRun m (.stmts 0 true) Z = .ok u R2) : ¬ BadW (hd Z) := by
  intro hb
  cases m with
  | zero => cases h
  | succ m =>
    simp only [pRun, pStep, stmtsB, if_true, no_kind hb 0 (by omega), Bool.false_eq_true, if_false] at h
    cases hp : pRun m (.stmt 0) Z with
    | ok a R => exact no_stmt hb m 0 a R hp
    | err x y => rw [hp] at h; cases h
    | out => rw [hp] at h; cases h

theorem stops_of {e : Tok} {Z : List Tok} (he : e.kind = 0) (hz : ¬ BadW (hd Z)) : Stops ⟨[e], Z⟩ False True := by
  have h0 : ∀ s, isTok (hd [e]) s = false := fun s => by
    show isTok e s = false
    unfold isTok
    rw [he]
    simp
  have h1 : ∀ s, (s = [101, 108, 115, 101] ∨ s = [99, 97, 116, 99, 104] ∨ s = [102, 105, 110, 97, 108, 108, 121]) → isTok (hd Z) s = false := fun s hs => by
    cases hx : isTok (hd Z) s with
    | false => rfl
    | true =>
      exfalso
      apply hz
      unfold isTok at hx
      simp at hx
      refine ⟨hx.2.symm, ?_⟩
      rw [hx.1]
      exact hs
  exact ⟨False.elim, False.elim, False.elim, False.elim, False.elim, False.elim, fun _ => (h0 _).trans (h1 _ (.inl rfl)).symm, fun _ => (h0 _).trans (h1 _ (.inr (.inl rfl))).symm, fun _ => (h0 _).trans (h1 _ (.inr (.inr rfl))).symm⟩

theorem stmts_join {e : Tok} (he : e.kind = 0) {Z : List Tok} {m : Nat} {u : List T} {R2 : List Tok} (hZ : pRun m (.stmts 0 true) Z = .ok u R2) : ∀ (n : Nat) (X X' : List Tok) (v : List T) (R1 : List Tok),
    (∀ t ∈ X, t.kind ≠ 0) → X.map Tok.er = X'.map Tok.er → pRun n (.stmts 0 true) (X ++ [e]) = .ok v R1 → ∃ n' v', pRun n' (.stmts 0 true) (X' ++ Z) = .ok (v' ++ u) R2 ∧ erL v' = erL v := by
  have hq := stops_of he (head_ok hZ)
  intro n
  induction n with
  | zero => intro X X' v R1 _ _ h; cases h
  | succ n ih =>
    intro X X' v R1 hX hXX h
    cases X with
    | nil =>
      cases X' with
      | cons a b => simp at hXX
      | nil =>
        have hk : ((hd [e]).kind == 0) = true := by simpa [hd] using he
        simp only [List.nil_append, pRun, pStep, stmtsB, if_true, hk] at h
        cases h
        exact ⟨m, [], by simpa using hZ, rfl⟩
    | cons t X =>
      cases X' with
      | nil => simp at hXX
      | cons t' X' =>
        have ht : t.kind ≠ 0 := hX t (by simp)
        have hXX0 := hXX
        simp only [List.map_cons, List.cons.injEq] at hXX
        have ht' : t'.kind ≠ 0 := by rw [← er_kind hXX.1]; exact ht
        have hk : ((hd (t :: X ++ [e])).kind == 0) = false := by simpa [hd] using ht
        have hk' : ((hd (t' :: X' ++ Z)).kind == 0) = false := by simpa [hd] using ht'
        simp only [pRun, pStep, stmtsB, if_true, hk, Bool.false_eq_true, if_false] at h
        cases hs : pRun n (.stmt 0) (t :: X ++ [e]) with
        | err x y => rw [hs] at h; cases h
        | out => rw [hs] at h; cases h
        | ok k Ra =>
          rw [hs] at h
          simp only [Res.bind] at h
          obtain ⟨P, hP, hPk⟩ := keep n _ _ k Ra hs
          have hst : Sam ⟨[e], Z⟩ (t :: X ++ [e]) (t' :: X' ++ Z) := ⟨_, _, rfl, rfl, hXX0⟩
          rcases ((ihR_all hq n).stmt True 0 0 _ (t' :: X' ++ Z) (Nat.le_refl _) k Ra hs).2 trivial hst with hlow | ⟨k', Ra', hs', ⟨Y, Y', rfl, rfl, hYY⟩, hkk⟩
          · exfalso
            have : Ra = [] := List.eq_nil_of_length_eq_zero (by have := hlow.2 trivial; simp at this; simpa using this)
            subst this
            rw [List.append_nil] at hP
            have : e ∈ P := by rw [← hP]; simp
            exact hPk e this he
          · have hYX : t :: X = P ++ Y := by
              have : (t :: X) ++ [e] = (P ++ Y) ++ [e] := by rw [List.append_assoc]; exact hP
              exact List.append_cancel_right this
            cases hks : pRun n (.stmts 0 true) (Y ++ [e]) with
            | err x y => rw [hks] at h; cases h
            | out => rw [hks] at h; cases h
            | ok ks Rb =>
              rw [hks] at h
              cases h
              obtain ⟨n1, v1, h1, h2⟩ := ih Y Y' ks _ (fun a ha => hX a (by rw [hYX]; simp [ha])) hYY hks
              have e1 := pRun_mono (Nat.le_max_left n n1) (.stmt 0) (t' :: X' ++ Z) (by rw [hs']; simp)
              have e2 := pRun_mono (Nat.le_max_right n n1) (.stmts 0 true) (Y' ++ Z) (by rw [h1]; simp)
              refine ⟨max n n1 + 1, k' ++ v1, ?_, ?_⟩
              · simp only [pRun, pStep, stmtsB, if_true, hk', Bool.false_eq_true, if_false]
                rw [e1, hs']
                simp only [Res.bind]
                rw [e2, h1]
                simp
              · rw [erL_append, erL_append, h2, hkk]

end Bf

/- A text with a line's end and another text behind it: the tokens of both (plain). -/
namespace Go.Proofs.YtgdamcmfdhhheaaGreatDoor
open Go.RowKit Bf

theorem nm10 : isNm 10 = false := by decide

theorem nameLen_join (d t : List UInt8) : nameLen (d ++ 10 :: t) = nameLen d := by
  induction d with
  | nil => rw [List.nil_append, nameLen_cons, nm10]; rfl
  | cons b d ih => rw [List.cons_append, nameLen_cons, nameLen_cons, ih]

theorem hasPrefix_join (d t : List UInt8) (a b : UInt8) (hb : b ≠ 10) (ha : a ≠ 10) : Lib.hasPrefix (d ++ 10 :: t) [a, b] = Lib.hasPrefix d [a, b] := by
  unfold Lib.hasPrefix
  cases d with
  | nil => simp [List.isPrefixOf, ha]
  | cons x d =>
    cases d with
    | nil => simp [List.isPrefixOf, hb]
    | cons y d => simp [List.isPrefixOf]

theorem index_join : ∀ (d r sub : List UInt8), 0 ≤ Lib.index d sub → Lib.index (d ++ r) sub = Lib.index d sub := by
  intro d r sub
  induction d with
  | nil =>
    intro h
    cases sub with
    | nil => cases r <;> simp [Lib.index]
    | cons a t => simp [Lib.index] at h
  | cons b d ih =>
    intro h
    rw [List.cons_append]
    unfold Lib.index at h ⊢
    by_cases h1 : sub.isPrefixOf (b :: d) = true
    · have h2 : sub.isPrefixOf (b :: (d ++ r)) = true := by
        rw [List.isPrefixOf_iff_prefix] at h1 ⊢
        exact h1.trans (by rw [← List.cons_append]; exact List.prefix_append _ _)
      rw [if_pos h1, if_pos h2]
    · rw [if_neg h1] at h ⊢
      have hge := Lib.index_ge d sub
      by_cases h3 : Lib.index d sub = -1
      · rw [h3] at h; simp at h
      · have h0 : 0 ≤ Lib.index d sub := by omega
        have h4 : ¬ sub.isPrefixOf (b :: (d ++ r)) = true := by
          intro h5
          apply h1
          have hroom := index_room d sub h0
          rw [List.isPrefixOf_iff_prefix] at h5 ⊢
          refine List.prefix_of_prefix_length_le h5 (by rw [← List.cons_append]; exact List.prefix_append _ _) (by simp; omega)
        rw [if_neg h4, ih h0]

theorem index10 (d t : List UInt8) : Lib.index (d ++ 10 :: t) [10] = if 0 ≤ Lib.index d [10] then Lib.index d [10] else (d.length : Int) := by
  split
  · rename_i h; exact index_join d _ _ h
  · rename_i h
    induction d with
    | nil => simp [Lib.index, List.isPrefixOf]
    | cons b d ih =>
      unfold Lib.index at h
      rw [List.cons_append]
      unfold Lib.index
      have hge := Lib.index_ge d [10]
      by_cases h1 : ([10] : List UInt8).isPrefixOf (b :: d) = true
      · rw [if_pos h1] at h; simp at h
      · rw [if_neg h1] at h
        have h2 : ¬ ([10] : List UInt8).isPrefixOf (b :: (d ++ 10 :: t)) = true := by simpa [List.isPrefixOf] using h1
        rw [if_neg h2]
        by_cases h3 : Lib.index d [10] = -1
        · have := ih (by omega)
          rw [this]
          have e : ((d.length : Int) == -1) = false := by simp
          rw [e]
          simp
        · have e : (Lib.index d [10] == -1) = false := by simpa using h3
          rw [e] at h
          simp at h
          omega

theorem cut_join (d t : List UInt8) : (Lib.cut (d ++ 10 :: t) [10]).1 = (Lib.cut d [10]).1 := by
  unfold Lib.cut
  rw [index10]
  by_cases h : 0 ≤ Lib.index d [10]
  · rw [if_pos h, if_pos h, if_pos h]
    have := index_room d [10] h
    simp only
    rw [List.take_append_of_le_length (by simp at this; omega)]
  · rw [if_neg h, if_neg h, if_pos (by omega)]
    simp

theorem closed_join (q : UInt8) : ∀ (n : Nat) (s r : List UInt8) (i : Nat), s.length ≤ n → 0 < i → closedFrom q s i ≠ 0 → closedFrom q (s ++ r) i = closedFrom q s i := by
  intro n
  induction n with
  | zero =>
    intro s r i h _ h0
    have : s = [] := List.eq_nil_of_length_eq_zero (by omega)
    subst this
    exact absurd (by unfold closedFrom; rfl) h0
  | succ n ih =>
    intro s r i h hi h0
    cases s with
    | nil => exact absurd (by unfold closedFrom; rfl) h0
    | cons b t =>
      rw [closedFrom.eq_def] at h0 ⊢
      rw [List.cons_append]
      rw [closedFrom.eq_def q (b :: t) i]
      simp only at h0 ⊢
      split
      · rfl
      · rename_i hb
        rw [if_neg hb] at h0
        split
        · rfl
        · rename_i hb2
          rw [if_neg hb2] at h0
          split
          · rename_i hb3
            rw [if_pos hb3] at h0
            cases t with
            | nil => exact absurd rfl h0
            | cons c t' =>
              simp only [List.cons_append] at h0 ⊢
              split
              · rename_i hc
                rw [if_pos hc] at h0
                exact ih (c :: t') r (i + 1) (by simp at h ⊢; omega) (by omega) h0
              · rename_i hc
                rw [if_neg hc] at h0
                exact ih t' r (i + 2) (by simp at h ⊢; omega) (by omega) h0
          · rename_i hb3
            rw [if_neg hb3] at h0
            exact ih t r (i + 1) (by simp at h ⊢; omega) (by omega) h0

theorem closedN_join {d : List UInt8} (h1 : 1 ≤ d.length) (h : closedN d ≠ 0) (r : List UInt8) : closedN (d ++ r) = closedN d := by
  cases d with
  | nil => simp at h1
  | cons b t =>
    unfold closedN at h ⊢
    exact closed_join b t.length t r 1 (Nat.le_refl _) (by omega) h

theorem contains_mem : ∀ (row x : List UInt8), Lib.contains row x = true → ∀ b ∈ x, b ∈ row := by
  intro row x h b hb
  unfold Lib.contains at h
  simp only [decide_eq_true_eq] at h
  induction row with
  | nil =>
    cases x with
    | nil => cases hb
    | cons a t => simp [Lib.index] at h
  | cons c row ih =>
    unfold Lib.index at h
    by_cases h1 : x.isPrefixOf (c :: row) = true
    · exact (List.isPrefixOf_iff_prefix.1 h1).subset hb
    · rw [if_neg h1] at h
      have hge := Lib.index_ge row x
      by_cases h3 : Lib.index row x = -1
      · rw [h3] at h; simp at h
      · exact List.mem_cons_of_mem _ (ih (by omega))

theorem sign10 (x : List UInt8) (h : (10 : UInt8) ∈ x) : sign x = false := by
  cases hs : sign x with
  | false => rfl
  | true =>
    unfold sign among at hs
    simp only [Bool.and_eq_true] at hs
    have := contains_mem _ _ hs.2 10 (by simp [h])
    exact absurd this (by decide)

theorem signFrom_join (d t : List UInt8) : ∀ n, n ≤ d.length → signFrom n (d ++ 10 :: t) = signFrom n d := by
  intro n
  induction n with
  | zero => intro _; rfl
  | succ n ih =>
    intro h
    unfold signFrom
    rw [List.take_append_of_le_length h, ih (by omega)]

theorem signFrom_high (d t : List UInt8) : ∀ n, d.length ≤ n → n ≤ (d ++ 10 :: t).length → signFrom n (d ++ 10 :: t) = signFrom d.length (d ++ 10 :: t) := by
  intro n
  induction n with
  | zero => intro h _; rw [show d.length = 0 by omega]
  | succ n ih =>
    intro h h2
    by_cases e : d.length = n + 1
    · rw [e]
    · rw [signFrom]
      have hm : (10 : UInt8) ∈ (d ++ 10 :: t).take (n + 1) := by
        obtain ⟨k, hk⟩ : ∃ k, n + 1 - d.length = k + 1 := ⟨n - d.length, by omega⟩
        rw [List.take_append, hk]
        simp
      rw [sign10 _ hm]
      simp only [Bool.false_eq_true, if_false]
      exact ih (by omega) (by omega)

theorem signLen_join (d t : List UInt8) : signLen (d ++ 10 :: t) = signLen d := by
  unfold signLen
  by_cases h : 3 ≤ d.length
  · rw [show min 3 (d ++ 10 :: t).length = 3 by simp; omega, show min 3 d.length = 3 by omega]
    exact signFrom_join d t 3 h
  · rw [signFrom_high d t _ (by simp; omega) (by simp; omega), signFrom_join d t _ (Nat.le_refl _), show min 3 d.length = d.length by omega]

theorem tokN_join {d : List UInt8} (h1 : 1 ≤ d.length) {p : Tok × Nat} (h : tokN d = .ok p) (t : List UInt8) : tokN (d ++ 10 :: t) = .ok p := by
  have hh : (d ++ 10 :: t).headD 0 = d.headD 0 := by cases d with | nil => simp at h1 | cons b d => rfl
  have htake : ∀ n, n ≤ d.length → (d ++ 10 :: t).take n = d.take n := fun n hn => List.take_append_of_le_length hn
  have hnl := nameLen_le d
  have hsl : signLen d ≤ d.length := by have := signFrom_le d (min 3 d.length); have e : signLen d = signFrom (min 3 d.length) d := rfl; omega
  unfold tokN at h ⊢
  rw [hh, nameLen_join, signLen_join, htake _ hnl, htake _ hsl]
  by_cases hc : closedN d = 0
  · by_cases hk : bKind (d.headD 0) = 3
    · rw [if_neg (by omega), if_neg (by omega), if_pos hk, if_pos hc] at h; cases h
    · by_cases hk1 : bKind (d.headD 0) = 1
      · rw [if_pos hk1] at h ⊢; exact h
      rw [if_neg hk1] at h ⊢
      by_cases hk2 : bKind (d.headD 0) = 2
      · rw [if_pos hk2] at h ⊢; exact h
      rw [if_neg hk2, if_neg hk] at h ⊢
      exact h
  · rw [closedN_join h1 hc, htake _ (Nat.le_of_lt (closedN_lt d h1))]
    exact h

theorem prefix_two {d : List UInt8} {a b : UInt8} (h : Lib.hasPrefix d [a, b] = true) : 2 ≤ d.length := by
  have := (List.isPrefixOf_iff_prefix.1 h).length_le
  simpa using this

theorem lxN_join {d : List UInt8} (h1 : 1 ≤ d.length) (t : List UInt8) (hb : ∀ n, lxN d ≠ .bad n) : lxN (d ++ 10 :: t) = lxN d := by
  have hh : (d ++ 10 :: t).headD 0 = d.headD 0 := by cases d with | nil => simp at h1 | cons b d => rfl
  unfold lxN at hb ⊢
  rw [hh, hasPrefix_join d t 47 47 (by decide) (by decide), hasPrefix_join d t 47 42 (by decide) (by decide), cut_join]
  by_cases c1 : isBlank (d.headD 0) = true
  · rw [if_pos c1, if_pos c1]
  rw [if_neg c1] at hb ⊢
  rw [if_neg c1]
  by_cases c2 : (d.headD 0).toNat = 47 ∧ Lib.hasPrefix d [47, 47] = true
  · rw [if_pos c2, if_pos c2]
  rw [if_neg c2] at hb ⊢
  rw [if_neg c2]
  by_cases c3 : (d.headD 0).toNat = 47 ∧ Lib.hasPrefix d [47, 42] = true
  · rw [if_pos c3] at hb ⊢
    rw [if_pos c3]
    have h2 := prefix_two c3.2
    rw [List.drop_append_of_le_length h2]
    by_cases c4 : Lib.index (d.drop 2) [42, 47] < 0
    · rw [if_pos c4] at hb; exact absurd rfl (hb 0)
    · rw [index_join _ _ _ (by omega)]
  rw [if_neg c3] at hb ⊢
  rw [if_neg c3]
  cases ht : tokN d with
  | error n => rw [ht] at hb; exact absurd rfl (hb n)
  | ok p => rw [tokN_join h1 ht]

/-- How far a step goes. -/
theorem lxN_skip {d : List UInt8} (h1 : 1 ≤ d.length) {n : Nat} (h : lxN d = .skip n) : 1 ≤ n ∧ n ≤ d.length := by
  unfold lxN at h
  by_cases c1 : isBlank (d.headD 0) = true
  · rw [if_pos c1] at h; cases h; omega
  rw [if_neg c1] at h
  by_cases c2 : (d.headD 0).toNat = 47 ∧ Lib.hasPrefix d [47, 47] = true
  · rw [if_pos c2] at h; cases h; exact cut_line d c2.2
  rw [if_neg c2] at h
  by_cases c3 : (d.headD 0).toNat = 47 ∧ Lib.hasPrefix d [47, 42] = true
  · rw [if_pos c3] at h
    have h2 := prefix_two c3.2
    by_cases c4 : Lib.index (d.drop 2) [42, 47] < 0
    · rw [if_pos c4] at h; cases h
    · rw [if_neg c4] at h
      have := index_room (d.drop 2) [42, 47] (by omega)
      simp at this
      cases h
      omega
  rw [if_neg c3] at h
  split at h <;> cases h

theorem lxN_tok {d : List UInt8} (h1 : 1 ≤ d.length) {t : Tok} {n : Nat} (h : lxN d = .tok t n) : 1 ≤ n ∧ n ≤ d.length := by
  unfold lxN at h
  repeat' split at h
  all_goals first
    | (cases h; done)
    | (cases h; rename_i e; exact tokN_len h1 e)

theorem lexFrom_fuel : ∀ (k f g : Nat) (s : List UInt8) (i : Nat) (acc : List Tok), s.length ≤ k → s.length ≤ f → s.length ≤ g → lexFrom f s i acc = lexFrom g s i acc := by
  intro k
  induction k with
  | zero =>
    intro f g s i acc hk hf hg
    have : s = [] := List.eq_nil_of_length_eq_zero (by omega)
    subst this
    cases f <;> cases g <;> rfl
  | succ k ih =>
    intro f g s i acc hk hf hg
    cases s with
    | nil => cases f <;> cases g <;> rfl
    | cons b s =>
      obtain ⟨f, rfl⟩ : ∃ f', f = f' + 1 := ⟨f - 1, by simp at hf; omega⟩
      obtain ⟨g, rfl⟩ : ∃ g', g = g' + 1 := ⟨g - 1, by simp at hg; omega⟩
      simp only [lexFrom]
      simp only [List.length_cons] at hk hf hg
      cases hl : lxN (b :: s) with
      | skip n =>
        have := lxN_skip (by simp) hl
        simp only
        exact ih _ _ _ _ _ (by simp; omega) (by simp; omega) (by simp; omega)
      | tok t n =>
        have := lxN_tok (by simp) hl
        simp only
        split
        · rfl
        · exact ih _ _ _ _ _ (by simp; omega) (by simp; omega) (by simp; omega)
      | bad n => rfl

theorem lexFrom_len : ∀ (f : Nat) (s : List UInt8) (i : Nat) (acc l : List Tok), lexFrom f s i acc = .ok l → acc.length ≤ l.length := by
  intro f
  induction f with
  | zero => intro s i acc l h; cases h; exact Nat.le_refl _
  | succ f ih =>
    intro s i acc l h
    cases s with
    | nil => cases h; exact Nat.le_refl _
    | cons b s =>
      simp only [lexFrom] at h
      cases hl : lxN (b :: s) with
      | skip n => rw [hl] at h; exact ih _ _ _ _ h
      | bad n => rw [hl] at h; cases h
      | tok t n =>
        rw [hl] at h
        simp only at h
        split at h
        · cases h
        · have := ih _ _ _ _ h; simp at this; omega

def sh (k : Nat) (t : Tok) : Tok := { t with pos := t.pos + k }

theorem lexFrom_shift (k : Nat) (P : List Tok) : ∀ (f : Nat) (s : List UInt8) (i : Nat) (acc l : List Tok), lexFrom f s i acc = .ok l → P.length + l.length ≤ 16384 →
    lexFrom f s (i + k) (P ++ acc.map (sh k)) = .ok (P ++ l.map (sh k)) := by
  intro f
  induction f with
  | zero => intro s i acc l h _; cases h; rfl
  | succ f ih =>
    intro s i acc l h hlen
    cases s with
    | nil => cases h; rfl
    | cons b s =>
      simp only [lexFrom] at h ⊢
      cases hl : lxN (b :: s) with
      | skip n =>
        rw [hl] at h
        have := ih _ _ _ _ h hlen
        simp only
        rw [show i + k + n = i + n + k by omega]
        exact this
      | bad n => rw [hl] at h; cases h
      | tok t n =>
        rw [hl] at h
        simp only at h ⊢
        split at h
        · cases h
        · have hm := lexFrom_len _ _ _ _ _ h
          have := ih _ _ _ _ h hlen
          rw [if_neg (by simp at hm ⊢; omega)]
          rw [show i + k + n = i + n + k by omega]
          rw [List.map_append] at this
          rw [List.append_assoc]
          exact this

theorem lexFrom_first (t : List UInt8) : ∀ (f : Nat) (d : List UInt8) (i : Nat) (acc l : List Tok), d.length ≤ f → lexFrom f d i acc = .ok l →
    lexFrom (d ++ 10 :: t).length (d ++ 10 :: t) i acc = lexFrom t.length t (i + d.length + 1) l := by
  intro f
  induction f with
  | zero =>
    intro d i acc l hd h
    have : d = [] := List.eq_nil_of_length_eq_zero (by omega)
    subst this
    cases h
    have hb : lxN (10 :: t) = .skip 1 := by unfold lxN; rw [List.headD_cons, if_pos (by decide)]
    simp only [List.nil_append, List.length_cons, lexFrom, hb]
    rfl
  | succ f ih =>
    intro d i acc l hd h
    cases d with
    | nil =>
      cases h
      have hb : lxN (10 :: t) = .skip 1 := by unfold lxN; rw [List.headD_cons, if_pos (by decide)]
      simp only [List.nil_append, List.length_cons, lexFrom, hb]
      rfl
    | cons b d =>
      have hnb : ∀ n, lxN (b :: d) ≠ .bad n := by
        intro n e
        simp only [lexFrom, e] at h
        cases h
      have hj := lxN_join (d := b :: d) (by simp) t hnb
      simp only [lexFrom] at h
      simp only [List.length_cons] at hd
      have hgo : ∀ n acc', 1 ≤ n → n ≤ (b :: d).length → lexFrom f ((b :: d).drop n) (i + n) acc' = .ok l →
          lexFrom (d ++ 10 :: t).length (((b :: d) ++ 10 :: t).drop n) (i + n) acc' = lexFrom t.length t (i + (b :: d).length + 1) l := by
        intro n acc' hn1 hn2 hk
        have := ih ((b :: d).drop n) (i + n) acc' l (by simp; omega) hk
        rw [List.drop_append_of_le_length hn2]
        rw [lexFrom_fuel (d ++ 10 :: t).length (d ++ 10 :: t).length (((b :: d).drop n) ++ 10 :: t).length _ _ _ (by simp at hn2 ⊢; omega) (by simp at hn2 ⊢; omega) (Nat.le_refl _), this]
        congr 1
        simp only [List.length_drop]
        omega
      have hun : lexFrom ((b :: d) ++ 10 :: t).length ((b :: d) ++ 10 :: t) i acc = (match lxN (b :: d) with
        | .skip n => lexFrom (d ++ 10 :: t).length (((b :: d) ++ 10 :: t).drop n) (i + n) acc
        | .tok t' n => if acc.length = 16384 then .error (i, 4) else lexFrom (d ++ 10 :: t).length (((b :: d) ++ 10 :: t).drop n) (i + n) (acc ++ [{ t' with pos := i }])
        | .bad n => .error (i + n, 5)) := by
        rw [← hj]
        rfl
      rw [hun]
      cases hl : lxN (b :: d) with
      | skip n =>
        rw [hl] at h
        have hn := lxN_skip (by simp) hl
        exact hgo n acc hn.1 hn.2 h
      | bad n => exact absurd hl (hnb n)
      | tok t' n =>
        rw [hl] at h
        have hn := lxN_tok (by simp) hl
        simp only at h ⊢
        split at h
        · cases h
        · rename_i hne
          rw [if_neg hne]
          exact hgo n _ hn.1 hn.2 h

/-- The tokens of two texts with a line's end between. -/
theorem tokens_join {s t : List UInt8} {la lb : List Tok} (hs : lexFrom s.length s 0 [] = .ok la) (ht : lexFrom t.length t 0 [] = .ok lb) (hlen : la.length + lb.length ≤ 16384) :
    tokens (s ++ 10 :: t) = .ok (la ++ lb.map (sh (s.length + 1)) ++ [⟨0, (s ++ 10 :: t).length, [], 0⟩]) := by
  unfold tokens
  rw [lexFrom_first t s.length s 0 [] la (Nat.le_refl _) hs]
  have := lexFrom_shift (s.length + 1) la t.length t 0 [] lb ht hlen
  simp only [List.map_nil, List.append_nil, Nat.zero_add] at this
  rw [Nat.zero_add, this]

end Go.Proofs.YtgdamcmfdhhheaaGreatDoor
