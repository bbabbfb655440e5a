/- The grammar of chapter 4 as a function on lists of tokens, with fuel: plain Lean, no program in sight. -/
import Derived.WalkKit
import Derived.Maps.AppendAt
import Derived.Test.YtgdamcmfdhhheaaGreatDoorRows
import Derived.WalkSpells
import Derived.WalkLawsBesides
import Derived.Laws.EntriesVeiled
import Derived.Deep.DrawnRows
import Derived.RegionDies
import Derived.Deep.RegionHeld3
import Derived.Deep.RegionLaw
import Derived.Deep.AppendLies
import Derived.Deep.LoopGhost
import Derived.Deep.RegionHeld2
set_option linter.all false

namespace Bf

structure Tok where
  kind : Nat
  pos : Nat
  text : List UInt8
  num : Nat
  deriving Inhabited, DecidableEq

inductive T where
  | node (kind pos : Nat) (text : List UInt8) (num : Nat) (kids : List T)
  deriving Inhabited

def T.kind : T → Nat | .node k _ _ _ _ => k

/-- What came of a part of the parser: well, an error at a place, or no fuel. -/
inductive Res (α : Type) where
  | ok (a : α) (rem : List Tok)
  | err (e pos : Nat)
  | out
  deriving Inhabited

def Res.bind {α β : Type} (r : Res α) (f : α → List Tok → Res β) : Res β :=
  match r with
  | .ok a rem => f a rem
  | .err e p => .err e p
  | .out => .out

def hd (rem : List Tok) : Tok := rem.headD ⟨0, 0, [], 0⟩

def fail {α : Type} (e : Nat) (rem : List Tok) : Res α := .err e (hd rem).pos

def isTok (t : Tok) (s : List UInt8) : Bool := t.text == s && (t.kind == 5 || t.kind == 2)

def need (s : List UInt8) (rem : List Tok) : Res Unit := if isTok (hd rem) s then .ok () rem.tail else fail 5 rem

def name (rem : List Tok) : Res (List UInt8) := if (hd rem).kind == 1 then .ok (hd rem).text rem.tail else fail 5 rem

def is2 (s : List UInt8) (rem : List Tok) : Bool := (hd rem).kind != 0 && ((hd rem.tail).kind == 5 && (hd rem.tail).text == s)

def assignOp (t : Tok) : Bool := t.kind == 5 && [[61], [43, 61], [45, 61], [42, 61], [47, 61], [37, 61]].contains t.text

def rows : List (List (List UInt8)) := [[[124, 124]], [[38, 38]], [[124]], [[94]], [[38]], [[61, 61], [33, 61], [61, 61, 61], [33, 61, 61]], [[60], [62], [60, 61], [62, 61], [105, 110], [105, 110, 115, 116, 97, 110, 99, 101, 111, 102]], [[60, 60], [62, 62], [62, 62, 62]], [[43], [45]], [[42], [47], [37]]]

def rowOf (s : List UInt8) : List (List (List UInt8)) → Nat → Nat
  | [], _ => 0
  | r :: rs, i => if r.contains s then i + 3 else rowOf s rs (i + 1)

def tight (t : Tok) : Nat :=
  if (t.kind == 2 && t.text != [105, 110] && t.text != [105, 110, 115, 116, 97, 110, 99, 101, 111, 102]) || (t.kind != 2 && t.kind != 5) then 0 else rowOf t.text rows 0

def unaries : List (List UInt8) := [[33], [45], [43], [126], [116, 121, 112, 101, 111, 102], [118, 111, 105, 100], [100, 101, 108, 101, 116, 101]]

def isUnary (t : Tok) : Bool := unaries.any (isTok t)

def simple (s : List UInt8) : Nat := if s == [116, 114, 117, 101] then 22 else if s == [102, 97, 108, 115, 101] then 23 else if s == [110, 117, 108, 108] then 24 else if s == [116, 104, 105, 115] then 25 else 0

def pairKind (s : List UInt8) : Nat := if s == [103, 101, 116] then 30 else if s == [115, 101, 116] then 31 else 0

/-- What a list is made of. -/
inductive One where | assign | pair | param
  deriving DecidableEq, Inhabited

/-- The parts of the grammar; the first number is the level that stands. -/
inductive G where
  | stmts (lv : Nat) (top : Bool)
  | stmt (lv : Nat)
  | block (lv : Nat)
  | declared (lv kind pos : Nat) (value : Bool)
  | rest (lv : Nat)
  | tested (lv : Nat)
  | body (lv : Nat)
  | loop (lv pos : Nat)
  | jump (lv kind pos : Nat) (value : Bool)
  | try_ (lv pos : Nat)
  | assign (lv : Nat)
  | cond (lv : Nat)
  | binary (lv least : Nat)
  | binTail (lv least pos : Nat) (k : T)
  | unary (lv : Nat)
  | postfix_ (lv : Nat) (calls : Bool)
  | postTail (lv : Nat) (calls : Bool) (pos : Nat) (k : T)
  | list (lv : Nat) (e : List UInt8) (most : Nat) (one : One) (n : Nat)
  | param (lv : Nat)
  | primary (lv : Nat)
  | pair (lv : Nat)
  | key (lv : Nat)
  deriving Inhabited

def One.g (o : One) (lv : Nat) : G := match o with | .assign => .assign lv | .pair => .pair lv | .param => .param lv

def ok1 (kind pos : Nat) (text : List UInt8) (num : Nat) (kids : List T) (rem : List Tok) : Res (List T) := .ok [.node kind pos text num kids] rem

abbrev Rec := G → List Tok → Res (List T)

def stmtsB (run : Rec) (lv : Nat) (top : Bool) (rem : List Tok) : Res (List T) :=
  if (if top then (hd rem).kind == 0 else isTok (hd rem) [125]) then .ok [] rem
  else (run (.stmt lv) rem).bind fun k rem => (run (.stmts lv top) rem).bind fun ks rem => .ok (k ++ ks) rem

def exprS (run : Rec) (lv pos : Nat) (rem : List Tok) : Res (List T) :=
  (run (.assign lv) rem).bind fun v rem => (need [59] rem).bind fun _ rem => ok1 6 pos [] 0 v rem

def stmtB (run : Rec) (lv : Nat) (rem : List Tok) : Res (List T) :=
  if 200 < lv + 1 then fail 6 rem
  else if isTok (hd rem) [123] then run (.block (lv + 1)) rem
  else if isTok (hd rem) [59] then ok1 15 (hd rem).pos [] 0 [] rem.tail
  else if !((hd rem).kind == 2) then exprS run (lv + 1) (hd rem).pos rem
  else if isTok (hd rem) [108, 101, 116] then run (.declared (lv + 1) 3 (hd rem).pos (is2 [61] rem.tail)) rem.tail
  else if isTok (hd rem) [99, 111, 110, 115, 116] then run (.declared (lv + 1) 4 (hd rem).pos true) rem.tail
  else if isTok (hd rem) [102, 117, 110, 99, 116, 105, 111, 110] then
    (name rem.tail).bind fun nm r => (run (.rest (lv + 1)) r).bind fun ks r => ok1 5 (hd rem).pos nm 0 ks r
  else if isTok (hd rem) [105, 102] then
    (run (.tested (lv + 1)) rem.tail).bind fun ks r =>
      if isTok (hd r) [101, 108, 115, 101] then (run (.body (lv + 1)) r.tail).bind fun k r => ok1 7 (hd rem).pos [] 0 (ks ++ k) r
      else ok1 7 (hd rem).pos [] 0 ks r
  else if isTok (hd rem) [119, 104, 105, 108, 101] then (run (.tested (lv + 1)) rem.tail).bind fun ks r => ok1 8 (hd rem).pos [] 0 ks r
  else if isTok (hd rem) [102, 111, 114] then run (.loop (lv + 1) (hd rem).pos) rem.tail
  else if isTok (hd rem) [114, 101, 116, 117, 114, 110] then run (.jump (lv + 1) 11 (hd rem).pos (!isTok (hd rem.tail) [59])) rem.tail
  else if isTok (hd rem) [116, 104, 114, 111, 119] then run (.jump (lv + 1) 12 (hd rem).pos true) rem.tail
  else if isTok (hd rem) [98, 114, 101, 97, 107] then run (.jump (lv + 1) 13 (hd rem).pos false) rem.tail
  else if isTok (hd rem) [99, 111, 110, 116, 105, 110, 117, 101] then run (.jump (lv + 1) 14 (hd rem).pos false) rem.tail
  else if isTok (hd rem) [116, 114, 121] then run (.try_ (lv + 1) (hd rem).pos) rem.tail
  else exprS run (lv + 1) (hd rem).pos rem

def blockB (run : Rec) (lv : Nat) (rem : List Tok) : Res (List T) :=
  (need [123] rem).bind fun _ r => (run (.stmts lv false) r).bind fun ks r => (need [125] r).bind fun _ r => ok1 2 (hd rem).pos [] 0 ks r

def declaredB (run : Rec) (lv kind pos : Nat) (value : Bool) (rem : List Tok) : Res (List T) :=
  (name rem).bind fun nm r =>
    (if value then (need [61] r).bind fun _ r => run (.assign lv) r else .ok [] r).bind fun ks r =>
      (need [59] r).bind fun _ r => ok1 kind pos nm 0 ks r

def restB (run : Rec) (lv : Nat) (rem : List Tok) : Res (List T) :=
  (need [40] rem).bind fun _ r => (run (.list lv [41] 64 .param 0) r).bind fun ks r => (run (.block lv) r).bind fun b r => .ok (ks ++ b) r

def testedB (run : Rec) (lv : Nat) (rem : List Tok) : Res (List T) :=
  (need [40] rem).bind fun _ r => (run (.assign lv) r).bind fun c r => (need [41] r).bind fun _ r => (run (.body lv) r).bind fun b r => .ok (c ++ b) r

def bodyB (run : Rec) (lv : Nat) (rem : List Tok) : Res (List T) :=
  if isTok (hd rem) [108, 101, 116] || isTok (hd rem) [99, 111, 110, 115, 116] || isTok (hd rem) [102, 117, 110, 99, 116, 105, 111, 110] then (if 200 < lv + 1 then fail 6 rem else fail 5 rem)
  else run (.stmt lv) rem

def isOf (t : Tok) : Bool := t.kind == 1 && t.text == [111, 102]

def loopB (run : Rec) (lv pos : Nat) (rem : List Tok) : Res (List T) :=
  (need [40] rem).bind fun _ r0 =>
    (if isTok (hd r0) [108, 101, 116] then .ok 3 r0.tail else (need [99, 111, 110, 115, 116] r0).bind fun _ r => .ok 4 r : Res Nat).bind fun kind r =>
      (name r).bind fun nm r =>
        (if isTok (hd r) [105, 110] then .ok 9 r.tail else if isOf (hd r) then .ok 10 r.tail else fail 5 r : Res Nat).bind fun out r =>
          (run (.assign lv) r).bind fun v r => (need [41] r).bind fun _ r => (run (.body lv) r).bind fun b r =>
            ok1 out pos [] 0 (.node kind (hd r0).pos nm 0 [] :: (v ++ b)) r

def jumpB (run : Rec) (lv kind pos : Nat) (value : Bool) (rem : List Tok) : Res (List T) :=
  (if value then run (.assign lv) rem else .ok [] rem).bind fun ks r => (need [59] r).bind fun _ r => ok1 kind pos [] 0 ks r

def tryB (run : Rec) (lv pos : Nat) (rem : List Tok) : Res (List T) :=
  (run (.block lv) rem).bind fun b r0 =>
    (if isTok (hd r0) [99, 97, 116, 99, 104] then (need [40] r0.tail).bind fun _ r => (name r).bind fun nm r => (need [41] r).bind fun _ r =>
        (run (.block lv) r).bind fun c r => ok1 17 (hd r0).pos nm 0 c r
      else .ok [] r0).bind fun c r1 =>
    (if isTok (hd r1) [102, 105, 110, 97, 108, 108, 121] then (run (.block lv) r1.tail).bind fun f r => ok1 18 (hd r1).pos [] 0 f r else .ok [] r1).bind fun f r =>
      if (b ++ (c ++ f)).length == 1 then fail 5 r else ok1 16 pos [] 0 (b ++ (c ++ f)) r

def firstKind (k : List T) : Nat := (k.headD (.node 0 0 [] 0 [])).kind

def assignB (run : Rec) (lv : Nat) (rem : List Tok) : Res (List T) :=
  if 200 < lv + 1 then fail 6 rem
  else (run (.cond (lv + 1)) rem).bind fun k r =>
    if assignOp (hd r) then
      (if !(firstKind k == 26) && !(firstKind k == 34) && !(firstKind k == 35) then fail 5 r
        else (run (.assign (lv + 1)) r.tail).bind fun a r' => ok1 43 (hd rem).pos (hd r).text 0 (k ++ a) r')
    else .ok k r

def condB (run : Rec) (lv : Nat) (rem : List Tok) : Res (List T) :=
  (run (.binary lv 3) rem).bind fun k r =>
    if isTok (hd r) [63] then
      (run (.assign lv) r.tail).bind fun a r => (need [58] r).bind fun _ r => (run (.assign lv) r).bind fun b r => ok1 42 (hd rem).pos [] 0 (k ++ (a ++ b)) r
    else .ok k r

def binKind (n : Nat) : Nat := if n == 3 then 41 else if n == 4 then 40 else 39
def binText (n : Nat) (s : List UInt8) : List UInt8 := if n == 3 then [] else if n == 4 then [] else s

def binaryB (run : Rec) (lv least : Nat) (rem : List Tok) : Res (List T) :=
  (run (.unary lv) rem).bind fun k r => run (.binTail lv least (hd rem).pos (k.headD default)) r

def binTailB (run : Rec) (lv least pos : Nat) (k : T) (rem : List Tok) : Res (List T) :=
  if tight (hd rem) == 0 || decide (tight (hd rem) < least) then .ok [k] rem
  else (run (.binary lv (tight (hd rem) + 1)) rem.tail).bind fun b r =>
    run (.binTail lv least pos (.node (binKind (tight (hd rem))) pos (binText (tight (hd rem)) (hd rem).text) 0 (k :: b))) r

def unaryB (run : Rec) (lv : Nat) (rem : List Tok) : Res (List T) :=
  if isUnary (hd rem) then
    (if 200 < lv + 1 then fail 6 rem else (run (.unary (lv + 1)) rem.tail).bind fun k r => ok1 38 (hd rem).pos (hd rem).text 0 k r)
  else run (.postfix_ lv true) rem

def postfixB (run : Rec) (lv : Nat) (calls : Bool) (rem : List Tok) : Res (List T) :=
  (if isTok (hd rem) [110, 101, 119] then
      (if 200 < lv + 1 then fail 6 rem
       else (run (.postfix_ (lv + 1) false) rem.tail).bind fun k r => (need [40] r).bind fun _ r => (run (.list lv [41] 64 .assign 0) r).bind fun ks r =>
        ok1 37 (hd rem).pos [] 0 (k ++ ks) r)
    else run (.primary lv) rem).bind fun k r => run (.postTail lv calls (hd rem).pos (k.headD default)) r

def postTailB (run : Rec) (lv : Nat) (calls : Bool) (pos : Nat) (k : T) (rem : List Tok) : Res (List T) :=
  if isTok (hd rem) [46] then
    (if !((hd rem.tail).kind == 1) && !((hd rem.tail).kind == 2) then fail 5 rem.tail
     else run (.postTail lv calls pos (.node 34 pos (hd rem.tail).text 0 [k])) rem.tail.tail)
  else if isTok (hd rem) [91] then
    (run (.assign lv) rem.tail).bind fun v r => (need [93] r).bind fun _ r => run (.postTail lv calls pos (.node 35 pos [] 0 (k :: v))) r
  else if calls && isTok (hd rem) [40] then
    (run (.list lv [41] 64 .assign 0) rem.tail).bind fun ks r => run (.postTail lv calls pos (.node 36 pos [] 0 (k :: ks))) r
  else .ok [k] rem

def listB (run : Rec) (lv : Nat) (e : List UInt8) (most : Nat) (one : One) (n : Nat) (rem : List Tok) : Res (List T) :=
  if isTok (hd rem) e then .ok [] rem.tail
  else (if 0 < n then need [44] rem else .ok () rem : Res Unit).bind fun _ r =>
    if n == most then fail 5 r
    else (run (one.g lv) r).bind fun k r => (run (.list lv e most one (n + 1)) r).bind fun ks r => .ok (k ++ ks) r

def paramB (rem : List Tok) : Res (List T) := (name rem).bind fun nm r => ok1 26 (hd rem).pos nm 0 [] r

def primaryB (run : Rec) (lv : Nat) (rem : List Tok) : Res (List T) :=
  if (hd rem).kind == 3 then ok1 20 (hd rem).pos [] (hd rem).num [] rem.tail
  else if (hd rem).kind == 4 then ok1 21 (hd rem).pos (hd rem).text 0 [] rem.tail
  else if (hd rem).kind == 1 then ok1 26 (hd rem).pos (hd rem).text 0 [] rem.tail
  else if (hd rem).kind == 2 && decide (0 < simple (hd rem).text) then ok1 (simple (hd rem).text) (hd rem).pos [] 0 [] rem.tail
  else if isTok (hd rem) [102, 117, 110, 99, 116, 105, 111, 110] then
    (if (hd rem.tail).kind == 1 then name rem.tail else .ok [] rem.tail).bind fun nm r => (run (.rest lv) r).bind fun ks r => ok1 27 (hd rem).pos nm 0 ks r
  else if isTok (hd rem) [40] then (run (.assign lv) rem.tail).bind fun k r => (need [41] r).bind fun _ r => .ok k r
  else if isTok (hd rem) [91] then (run (.list lv [93] 16384 .assign 0) rem.tail).bind fun ks r => ok1 33 (hd rem).pos [] 0 ks r
  else if isTok (hd rem) [123] then (run (.list lv [125] 16384 .pair 0) rem.tail).bind fun ks r => ok1 28 (hd rem).pos [] 0 ks r
  else fail 5 rem

def keyB (run : Rec) (lv : Nat) (rem : List Tok) : Res (List T) :=
  if (hd rem).kind == 1 || (hd rem).kind == 2 || (hd rem).kind == 4 then ok1 21 (hd rem).pos (hd rem).text 0 [] rem.tail
  else if (hd rem).kind == 3 then run (.primary lv) rem
  else if isTok (hd rem) [91] then (run (.assign lv) rem.tail).bind fun v r => (need [93] r).bind fun _ r => ok1 32 (hd rem).pos [] 0 v r
  else fail 5 rem

def pairB (run : Rec) (lv : Nat) (rem : List Tok) : Res (List T) :=
  if !((hd rem).kind == 1) || pairKind (hd rem).text == 0 || is2 [58] rem then
    (run (.key lv) rem).bind fun k r => (need [58] r).bind fun _ r => (run (.assign lv) r).bind fun v r => ok1 29 (hd rem).pos [] 0 (k ++ v) r
  else
    (run (.key lv) rem.tail).bind fun k r1 => (need [40] r1).bind fun _ r2 =>
      (if pairKind (hd rem).text == 31 then (name r2).bind fun nm r => ok1 26 (hd r2).pos nm 0 [] r else .ok [] r2).bind fun ks r =>
        (need [41] r).bind fun _ r => (run (.block lv) r).bind fun b r =>
          ok1 (pairKind (hd rem).text) (hd rem).pos [] 0 (k ++ [.node 27 (hd r1).pos [] 0 (ks ++ b)]) r

def pStep (run : Rec) : Rec
  | .stmts lv top => stmtsB run lv top
  | .stmt lv => stmtB run lv
  | .block lv => blockB run lv
  | .declared lv kind pos value => declaredB run lv kind pos value
  | .rest lv => restB run lv
  | .tested lv => testedB run lv
  | .body lv => bodyB run lv
  | .loop lv pos => loopB run lv pos
  | .jump lv kind pos value => jumpB run lv kind pos value
  | .try_ lv pos => tryB run lv pos
  | .assign lv => assignB run lv
  | .cond lv => condB run lv
  | .binary lv least => binaryB run lv least
  | .binTail lv least pos k => binTailB run lv least pos k
  | .unary lv => unaryB run lv
  | .postfix_ lv calls => postfixB run lv calls
  | .postTail lv calls pos k => postTailB run lv calls pos k
  | .list lv e most one n => listB run lv e most one n
  | .param _ => paramB
  | .primary lv => primaryB run lv
  | .pair lv => pairB run lv
  | .key lv => keyB run lv

def pRun : Nat → Rec
  | 0 => fun _ _ => .out
  | n + 1 => pStep (pRun n)

/-- The whole of a text's tokens: the last one is the end. -/
def scriptR (n : Nat) (toks : List Tok) : Res (List T) :=
  (pRun n (.stmts 0 true) toks).bind fun ks r => ok1 1 (hd toks).pos [] 0 ks r

end Bf

/- More fuel never tells less: plain Lean. -/
namespace Bf

def Le1 {α : Type} (x y : Res α) : Prop := x ≠ .out → y = x
def Le (f g : Rec) : Prop := ∀ (a : G) (r : List Tok), Le1 (f a r) (g a r)

theorem Le1.refl {α : Type} (x : Res α) : Le1 x x := fun _ => rfl
theorem Le1.bind {α β : Type} {x y : Res α} {f g : α → List Tok → Res β} (h : Le1 x y) (k : ∀ a r, Le1 (f a r) (g a r)) : Le1 (x.bind f) (y.bind g) := by
  intro hne
  cases x with
  | ok a r =>
    rw [h (by simp)]
    exact k a r hne
  | err e p => rw [h (by simp)]; rfl
  | out => exact absurd rfl hne
theorem Le1.ite {α : Type} {p : Prop} [Decidable p] {x x' y y' : Res α} (h : Le1 x y) (k : Le1 x' y') : Le1 (if p then x else x') (if p then y else y') := by
  split
  · exact h
  · exact k

theorem pStep_le {f g : Rec} (h : Le f g) : Le (pStep f) (pStep g) := by
  intro a r
  cases a <;> simp only [pStep, stmtsB, stmtB, exprS, blockB, declaredB, restB, testedB, bodyB, loopB, jumpB, tryB, assignB, condB, binaryB, binTailB, unaryB, postfixB, postTailB, listB, paramB, primaryB, keyB, pairB]
  all_goals
    repeat (first | exact h _ _ | exact Le1.refl _ | refine Le1.ite ?_ ?_ | refine Le1.bind ?_ (fun _ _ => ?_))

theorem pRun_le (n : Nat) : Le (pRun n) (pRun (n + 1)) := by
  induction n with
  | zero => intro a r h; exact absurd rfl h
  | succ n ih => exact pStep_le ih

theorem pRun_mono {m n : Nat} (h : m ≤ n) : Le (pRun m) (pRun n) := by
  induction h with
  | refl => exact fun _ _ => Le1.refl _
  | step _ ih => exact fun a r hne => (pRun_le _ a r (by rw [ih a r hne]; exact hne)).trans (ih a r hne)

end Bf

/- What the parser's memory holds, and how it goes from world to world. No program in sight, but for the numbers of four types. -/
namespace Bf
open Go Go.RowKit

structure NodeA where
  kind : Nat
  pos : Nat
  text : List UInt8
  num : Nat
  kids : List Nat

def tokVals (t : Tok) : List Value := [.int .u8 t.kind, .int .i64 t.pos, .string ⟨t.text.toArray⟩, .float .f64 t.num]
def nodeVals (n : NodeA) (kv : Value) : List Value := [.int .u8 n.kind, .int .i64 n.pos, .string ⟨n.text.toArray⟩, .float .f64 n.num, kv]
def ints (ks : List Nat) : List Value := ks.map fun (k : Nat) => Value.int .i64 (k : Int)
def nodeRow (ns : List NodeA) (kvs : List Value) : List Value := (List.zipWith nodeVals ns kvs).flatten

structure Cx where
  bp : Nat
  bl : Nat
  cap : Nat
  toks : List Tok

structure St where
  i : Nat
  lv : Int
  ns : List NodeA
  nv : Value
  kvs : List Value

/-- A slice of ints of the call's own. -/
def Row (c : Cx) (w : World) (v : Value) (ks : List Nat) : Prop := w.ownsRow (c.bp + 1) 3 1 v ks.length (ints ks)

structure PS (c : Cx) (w : World) (s : St) : Prop where
  p : w.heap[c.bp]? = some (.cells #[.slice (some ⟨c.bl, 0, none⟩) c.toks.length c.cap, .int .i64 s.i, .int .i64 s.lv, s.nv] 71 (0, 0))
  tok : ∀ i t, c.toks[i]? = some t → ∀ j v, (tokVals t)[j]? = some v → w.cell? ⟨c.bl, i * 4 + j, none⟩ = some v
  bl : c.bl < c.bp
  i : s.i < c.toks.length
  len : c.toks.length ≤ 16385
  last : ∀ t, c.toks[c.toks.length - 1]? = some t → t.kind = 0
  ns : w.ownsRow (c.bp + 1) 32 5 s.nv s.ns.length (nodeRow s.ns s.kvs)
  kvs : s.kvs.length = s.ns.length
  rows : ∀ (i : Nat) (n : NodeA) (kv : Value), s.ns[i]? = some n → s.kvs[i]? = some kv → Row c w kv n.kids
  sep : ∀ kv : Value, kv ∈ s.kvs → ∀ k, kv.ownBlock = some k → s.nv.ownBlock ≠ some k
  room : s.ns.length ≤ s.i + 1
  small : ∀ n : NodeA, n ∈ s.ns → n.kids.length ≤ 16385

def Own (c : Cx) (s : St) (k : Nat) : Prop := k = c.bp ∨ s.nv.ownBlock = some k ∨ ∃ kv : Value, kv ∈ s.kvs ∧ kv.ownBlock = some k

structure Fr (c : Cx) (w : World) (s : St) (w' : World) (s' : St) : Prop where
  os : w'.os = w.os
  tape : w'.tape = w.tape
  output : w'.output = w.output
  size : w.heap.size ≤ w'.heap.size
  block : ∀ k, k < w.heap.size → ¬ Own c s k → w'.heap[k]? = w.heap[k]?
  own : ∀ k, Own c s' k → Own c s k ∨ w.heap.size ≤ k

theorem Fr.refl (c : Cx) (w : World) (s : St) : Fr c w s w s := ⟨rfl, rfl, rfl, Nat.le_refl _, fun _ _ _ => rfl, fun _ h => .inl h⟩

theorem Fr.trans {c : Cx} {w w1 w2 : World} {s s1 s2 : St} (h : Fr c w s w1 s1) (k : Fr c w1 s1 w2 s2) : Fr c w s w2 s2 :=
  ⟨k.os.trans h.os, k.tape.trans h.tape, k.output.trans h.output, Nat.le_trans h.size k.size,
    fun b hb hn => (k.block b (Nat.lt_of_lt_of_le hb h.size) (fun ho => by
      rcases h.own b ho with h' | h'
      · exact hn h'
      · omega)).trans (h.block b hb hn),
    fun b hb => by
      rcases k.own b hb with h' | h'
      · exact h.own b h'
      · exact .inr (Nat.le_trans h.size h')⟩

theorem grownBy_trans {w w1 w2 : World} {row : Option Nat} (h : w.grownBy w1 none) (k : w1.grownBy w2 row) : w.grownBy w2 row :=
  ⟨k.os.trans h.os, k.tape.trans h.tape, k.output.trans h.output, Nat.le_trans h.size k.size,
    fun b hb hn => (k.block b (Nat.lt_of_lt_of_le hb h.size) hn).trans (h.block b hb (by simp))⟩

theorem grownBy_of_below {w w' : World} (h : Below w.heap.size w w') (row : Option Nat) : w.grownBy w' row := ⟨h.os, h.tape, h.output, h.size, fun k hk _ => h.block k hk⟩

theorem Fr.grown {c : Cx} {w0 w w' : World} {s0 s : St} (h : Fr c w0 s0 w s) {row : Option Nat} (hg : w.grownBy w' row) (hr : ∀ k, row = some k → w0.heap.size ≤ k) : Fr c w0 s0 w' s :=
  ⟨hg.os.trans h.os, hg.tape.trans h.tape, hg.output.trans h.output, Nat.le_trans h.size hg.size,
    fun b hb hn => (hg.block b (Nat.lt_of_lt_of_le hb h.size) (fun e => by have := hr b e.symm; omega)).trans (h.block b hb hn), h.own⟩

theorem Fr.below {c : Cx} {w0 w w' : World} {s0 s : St} (h : Fr c w0 s0 w s) (hb : Below w.heap.size w w') : Fr c w0 s0 w' s :=
  h.grown (grownBy_of_below hb none) (by simp)

/-- A block that is none of the parser's own, nor new, reads as before. -/
theorem Fr.cell {c : Cx} {w w' : World} {s s' : St} (h : Fr c w s w' s') {a : Addr} {v : Value} (ha : w.cell? a = some v) (hn : ¬ Own c s a.block) : w'.cell? a = some v :=
  (World.cell?_of_block (h.block _ (World.block_lt_of_cell? w a ha) hn)).trans ha

theorem PS.bp_lt {c : Cx} {w : World} {s : St} (h : PS c w s) : c.bp < w.heap.size := (Array.getElem?_eq_some_iff.1 h.p).1

theorem PS.own_ge {c : Cx} {w : World} {s : St} (h : PS c w s) {k : Nat} (hk : Own c s k) : c.bp ≤ k ∧ k < w.heap.size := by
  rcases hk with rfl | hk | ⟨kv, hm, hk⟩
  · exact ⟨Nat.le_refl _, h.bp_lt⟩
  · have := h.ns.lt k hk; omega
  · obtain ⟨i, hi, rfl⟩ := List.getElem_of_mem hm
    have hlt : i < s.ns.length := by have := h.kvs; omega
    have := (h.rows i s.ns[i] s.kvs[i] (List.getElem?_eq_getElem hlt) (List.getElem?_eq_getElem hi)).lt k hk
    omega

theorem PS.keep {c : Cx} {w w' : World} {s : St} (h : PS c w s) (hb : ∀ k, Own c s k ∨ k = c.bl → w'.heap[k]? = w.heap[k]?) : PS c w' s := by
  have kept : ∀ {base e size v n xs}, w.ownsRow base e size v n xs → (∀ k, v.ownBlock = some k → w'.heap[k]? = w.heap[k]?) → w'.ownsRow base e size v n xs := by
    intro base e size v n xs h hk
    refine ⟨h.1, ?_⟩
    rcases h.2 with hn | ⟨g, cap, cur, rfl, hb, hg, rest⟩
    · exact .inl hn
    · exact .inr ⟨g, cap, cur, rfl, hb, (hk g rfl).trans hg, rest⟩
  refine ⟨(hb _ (.inl (.inl rfl))).trans h.p, fun i t ht j v hv => ?_, h.bl, h.i, h.len, h.last, kept h.ns (fun k hk => hb k (.inl (.inr (.inl hk)))), h.kvs, fun i n kv hn hkv => ?_, h.sep, h.room, h.small⟩
  · exact (World.cell?_of_block (a := ⟨c.bl, i * 4 + j, none⟩) (hb _ (.inr rfl))).trans (h.tok i t ht j v hv)
  · exact kept (h.rows i n kv hn hkv) (fun k hk => hb k (.inl (.inr (.inr ⟨kv, List.mem_of_getElem? hkv, hk⟩))))

theorem PS.grown {c : Cx} {w w' : World} {s : St} (h : PS c w s) {row : Option Nat} (hg : w.grownBy w' row) (hr : ∀ k, row = some k → ¬ Own c s k ∧ c.bp ≤ k) : PS c w' s := by
  refine h.keep fun k hk => hg.block k ?_ (fun e => ?_)
  · rcases hk with hk | rfl
    · exact (h.own_ge hk).2
    · have := h.bp_lt; have := h.bl; omega
  · have h1 := hr k e.symm
    rcases hk with hk | rfl
    · exact h1.1 hk
    · have := h.bl; omega

theorem PS.below {c : Cx} {w w' : World} {s : St} (h : PS c w s) (hb : Below w.heap.size w w') : PS c w' s := h.grown (grownBy_of_below hb none) (by simp)

/-- The cells that a walk reads and writes. -/
theorem PS.c0 {c : Cx} {w : World} {s : St} (h : PS c w s) : w.cell? ⟨c.bp, 0, none⟩ = some (.slice (some ⟨c.bl, 0, none⟩) c.toks.length c.cap) := by simp [World.cell?, h.p]
theorem PS.c1 {c : Cx} {w : World} {s : St} (h : PS c w s) : w.cell? ⟨c.bp, 1, none⟩ = some (.int .i64 s.i) := by simp [World.cell?, h.p]
theorem PS.c2 {c : Cx} {w : World} {s : St} (h : PS c w s) : w.cell? ⟨c.bp, 2, none⟩ = some (.int .i64 s.lv) := by simp [World.cell?, h.p]
theorem PS.c3 {c : Cx} {w : World} {s : St} (h : PS c w s) : w.cell? ⟨c.bp, 3, none⟩ = some s.nv := by simp [World.cell?, h.p]
theorem PS.fz {c : Cx} {w : World} {s : St} (h : PS c w s) (o : Nat) : w.frozen? ⟨c.bp, o, none⟩ = false := by simp [World.frozen?, h.p]
theorem PS.bl_lt {c : Cx} {w : World} {s : St} (h : PS c w s) : c.bl < w.heap.size := Nat.lt_trans h.bl h.bp_lt

theorem rem_eq {l : List Tok} {i : Nat} (h : i < l.length) {rem : List Tok} (hr : l.drop i = rem) : l[i]? = some (hd rem) := by
  subst hr
  rw [List.drop_eq_getElem_cons h]
  simp [hd, List.getElem?_eq_getElem h]

theorem rem_tail {l : List Tok} {i : Nat} {rem : List Tok} (hr : l.drop i = rem) : l.drop (i + 1) = rem.tail := by subst hr; simp

theorem PS.t0 {c : Cx} {w : World} {s : St} (h : PS c w s) {rem : List Tok} (hr : c.toks.drop s.i = rem) : w.cell? ⟨c.bl, s.i * 4, none⟩ = some (.int .u8 (hd rem).kind) := h.tok _ _ (rem_eq h.i hr) 0 _ rfl
theorem PS.t1 {c : Cx} {w : World} {s : St} (h : PS c w s) {rem : List Tok} (hr : c.toks.drop s.i = rem) : w.cell? ⟨c.bl, s.i * 4 + 1, none⟩ = some (.int .i64 (hd rem).pos) := h.tok _ _ (rem_eq h.i hr) 1 _ rfl
theorem PS.t2 {c : Cx} {w : World} {s : St} (h : PS c w s) {rem : List Tok} (hr : c.toks.drop s.i = rem) : w.cell? ⟨c.bl, s.i * 4 + 2, none⟩ = some (.string ⟨(hd rem).text.toArray⟩) := h.tok _ _ (rem_eq h.i hr) 2 _ rfl
theorem PS.t3 {c : Cx} {w : World} {s : St} (h : PS c w s) {rem : List Tok} (hr : c.toks.drop s.i = rem) : w.cell? ⟨c.bl, s.i * 4 + 3, none⟩ = some (.float .f64 (hd rem).num) := h.tok _ _ (rem_eq h.i hr) 3 _ rfl

theorem PS.more {c : Cx} {w : World} {s : St} (h : PS c w s) {rem : List Tok} (hr : c.toks.drop s.i = rem) (hk : (hd rem).kind ≠ 0) : s.i + 1 < c.toks.length := by
  have hi := h.i
  by_cases e : s.i + 1 < c.toks.length
  · exact e
  · exfalso
    have e1 : s.i = c.toks.length - 1 := by omega
    exact hk (h.last _ (by rw [← e1]; exact rem_eq h.i hr))

/-- One token on. -/
def St.next (s : St) : St := { s with i := s.i + 1 }
def St.at_ (s : St) (lv : Int) : St := { s with lv := lv }

theorem heap_set {w : World} {b o : Nat} {cs : Array Value} {t : TypeId} {v : Value} (h : w.heap[b]? = some (.cells cs t (0, 0))) :
    (w.setCell ⟨b, o, none⟩ v).heap[b]? = some (.cells (cs.setIfInBounds o v) t (0, 0)) := by
  simp [World.setCell, Array.getElem?_modify, h]

theorem PS.set {c : Cx} {w : World} {s s' : St} (h : PS c w s) (o : Nat) (v : Value)
    (hp : #[.slice (some ⟨c.bl, 0, none⟩) c.toks.length c.cap, .int .i64 s'.i, .int .i64 s'.lv, s'.nv] = (#[.slice (some ⟨c.bl, 0, none⟩) c.toks.length c.cap, .int .i64 s.i, .int .i64 s.lv, s.nv] : Array Value).setIfInBounds o v)
    (hn : s'.ns = s.ns) (hv : s'.nv = s.nv) (hk : s'.kvs = s.kvs) (hi : s.i ≤ s'.i) (hi' : s'.i < c.toks.length) :
    PS c (w.setCell ⟨c.bp, o, none⟩ v) s' ∧ Fr c w s (w.setCell ⟨c.bp, o, none⟩ v) s' := by
  have other : ∀ k, k ≠ c.bp → (w.setCell ⟨c.bp, o, none⟩ v).heap[k]? = w.heap[k]? := fun k hk => Below.heap_setCell w ⟨c.bp, o, none⟩ v k hk
  have kept : ∀ {e size v' n xs}, w.ownsRow (c.bp + 1) e size v' n xs → (w.setCell ⟨c.bp, o, none⟩ v).ownsRow (c.bp + 1) e size v' n xs := by
    intro e size v' n xs h
    refine ⟨h.1, ?_⟩
    rcases h.2 with hn | ⟨g, cap, cur, rfl, hb, hg, rest⟩
    · exact .inl hn
    · exact .inr ⟨g, cap, cur, rfl, hb, (other g (by omega)).trans hg, rest⟩
  constructor
  · refine ⟨by rw [heap_set h.p, ← hp], fun i t ht j u hu => ?_, h.bl, hi', h.len, h.last, by rw [hn, hv, hk]; exact kept h.ns, by rw [hn, hk]; exact h.kvs, fun i n kv e1 e2 => ?_, by rw [hk, hv]; exact h.sep, by rw [hn]; exact Nat.le_trans h.room (Nat.succ_le_succ hi), by rw [hn]; exact h.small⟩
    · exact (World.cell?_of_block (a := ⟨c.bl, i * 4 + j, none⟩) (other _ (by have := h.bl; simp; omega))).trans (h.tok i t ht j u hu)
    · rw [hn] at e1; rw [hk] at e2; exact kept (h.rows i n kv e1 e2)
  · refine ⟨rfl, rfl, rfl, by simp [World.setCell], fun k _ hno => other k (fun e => hno (.inl e)), fun k hk' => .inl ?_⟩
    unfold Own at hk' ⊢
    rw [hv, hk] at hk'
    exact hk'

theorem PS.next {c : Cx} {w : World} {s : St} (h : PS c w s) (hi : s.i + 1 < c.toks.length) :
    PS c (w.setCell ⟨c.bp, 1, none⟩ (.int .i64 ((s.i : Int) + 1))) s.next ∧ Fr c w s (w.setCell ⟨c.bp, 1, none⟩ (.int .i64 ((s.i : Int) + 1))) s.next :=
  h.set 1 _ (by simp [St.next]) rfl rfl rfl (by simp [St.next]) hi

theorem PS.level {c : Cx} {w : World} {s : St} (h : PS c w s) (lv : Int) :
    PS c (w.setCell ⟨c.bp, 2, none⟩ (.int .i64 lv)) (s.at_ lv) ∧ Fr c w s (w.setCell ⟨c.bp, 2, none⟩ (.int .i64 lv)) (s.at_ lv) :=
  h.set 2 _ (by simp [St.at_]) rfl rfl rfl (by simp [St.at_]) h.i

mutual
def Rep (ns : List NodeA) (k : Nat) : T → Prop
  | .node kind pos text num ts => ∃ ks, ns[k]? = some ⟨kind, pos, text, num, ks⟩ ∧ RepL ns ks ts
def RepL (ns : List NodeA) : List Nat → List T → Prop
  | [], [] => True
  | k :: ks, t :: ts => Rep ns k t ∧ RepL ns ks ts
  | _, _ => False
end

mutual
def T.size : T → Nat
  | .node _ _ _ _ ts => sizeL ts + 1
def sizeL : List T → Nat
  | [] => 0
  | t :: ts => t.size + sizeL ts
end

theorem sizeL_append (a b : List T) : sizeL (a ++ b) = sizeL a + sizeL b := by
  induction a with
  | nil => simp [sizeL]
  | cons t a ih => simp [sizeL, ih]; omega

mutual
theorem Rep.mono {ns ns' : List NodeA} (h : ns <+: ns') : ∀ {k : Nat} {t : T}, Rep ns k t → Rep ns' k t
  | _, .node _ _ _ _ _, hr => by
    obtain ⟨ks, h1, h2⟩ := hr
    obtain ⟨r, rfl⟩ := h
    refine ⟨ks, ?_, RepL.mono ⟨r, rfl⟩ h2⟩
    rw [List.getElem?_append_left (List.getElem?_eq_some_iff.1 h1).1]; exact h1
theorem RepL.mono {ns ns' : List NodeA} (h : ns <+: ns') : ∀ {ks : List Nat} {ts : List T}, RepL ns ks ts → RepL ns' ks ts
  | [], [], _ => trivial
  | _ :: _, _ :: _, hr => ⟨Rep.mono h hr.1, RepL.mono h hr.2⟩
  | [], _ :: _, hr => hr.elim
  | _ :: _, [], hr => hr.elim
end

theorem RepL.length {ns : List NodeA} : ∀ {ks : List Nat} {ts : List T}, RepL ns ks ts → ks.length = ts.length
  | [], [], _ => rfl
  | _ :: _, _ :: _, hr => by simp [RepL.length hr.2]
  | [], _ :: _, hr => hr.elim
  | _ :: _, [], hr => hr.elim

theorem RepL.append {ns : List NodeA} : ∀ {ks : List Nat} {ts : List T}, RepL ns ks ts → ∀ {ks' ts'}, RepL ns ks' ts' → RepL ns (ks ++ ks') (ts ++ ts')
  | [], [], _, _, _, h => h
  | _ :: _, _ :: _, hr, _, _, h => ⟨hr.1, RepL.append hr.2 h⟩
  | [], _ :: _, hr, _, _, _ => hr.elim
  | _ :: _, [], hr, _, _, _ => hr.elim

theorem RepL.one {ns : List NodeA} {k : Nat} {t : T} (h : Rep ns k t) : RepL ns [k] [t] := ⟨h, trivial⟩

/-- What stands behind a part of the parser that went well: d tokens at least were passed over for no node of their own. -/
structure After (c : Cx) (s s' : St) (rem : List Tok) (ts : List T) (d : Nat) : Prop where
  lv : s'.lv = s.lv
  rem : c.toks.drop s'.i = rem
  pre : s.ns <+: s'.ns
  size : s'.ns.length = s.ns.length + sizeL ts
  used : sizeL ts + s.i + d ≤ s'.i

theorem After.refl {c : Cx} {s : St} {rem : List Tok} (h : c.toks.drop s.i = rem) : After c s s rem [] 0 := ⟨rfl, h, List.prefix_refl _, by simp [sizeL], by simp [sizeL]⟩

theorem After.trans {c : Cx} {s s1 s2 : St} {r1 r2 : List Tok} {ts us : List T} {d e : Nat} (h : After c s s1 r1 ts d) (k : After c s1 s2 r2 us e) : After c s s2 r2 (ts ++ us) (d + e) :=
  ⟨k.lv.trans h.lv, k.rem, h.pre.trans k.pre, by rw [sizeL_append, k.size, h.size]; omega, by have := k.used; have := h.used; rw [sizeL_append]; omega⟩

theorem After.next {c : Cx} {s s1 : St} {r1 : List Tok} {ts : List T} {d : Nat} (h : After c s s1 r1 ts d) : After c s s1.next r1.tail ts (d + 1) :=
  ⟨h.lv, rem_tail h.rem, h.pre, h.size, by have := h.used; simp [St.next]; omega⟩

theorem After.weak {c : Cx} {s s1 : St} {r1 : List Tok} {ts : List T} {d : Nat} (h : After c s s1 r1 ts d) : After c s s1 r1 ts 0 :=
  ⟨h.lv, h.rem, h.pre, h.size, by have := h.used; omega⟩

def stopV (e pos : Nat) : List PanicEntry := [{ v := .iface 101 (.agg #[.int .i64 e, .int .i64 pos]), recovered := false }]

/-- It went wrong: the panic. -/
def Bad (c : Cx) (w : World) (s : St) (en p : Nat) (e : Ending) (w' : World) : Prop :=
  e = .panicked (stopV en p) ∧ ∃ s', PS c w' s' ∧ Fr c w s w' s'

theorem Bad.trans {c : Cx} {w w1 w' : World} {s s1 : St} {en p : Nat} {e : Ending} (hf : Fr c w s w1 s1) (h : Bad c w1 s1 en p e w') : Bad c w s en p e w' := by
  obtain ⟨he, s', hp, hfr⟩ := h
  exact ⟨he, s', hp, hf.trans hfr⟩

/-- How far a walk has come: from world w and state s to wi and si; R is left; TS are the trees that were made (and have no tree above them yet), KS their numbers. -/
structure Mid (c : Cx) (w : World) (s : St) (wi : World) (si : St) (R : List Tok) (TS : List T) (KS : List Nat) (d : Nat) : Prop where
  ps : PS c wi si
  fr : Fr c w s wi si
  af : After c s si R TS d
  rp : RepL si.ns KS TS

theorem Mid.start {c : Cx} {w : World} {s : St} {R : List Tok} (h : PS c w s) (hr : c.toks.drop s.i = R) : Mid c w s w s R [] [] 0 := ⟨h, Fr.refl c w s, After.refl hr, trivial⟩

section
variable {c : Cx} {w wi wj : World} {s si sj : St} {R R' : List Tok} {TS : List T} {KS : List Nat} {d : Nat}

theorem Mid.rem (h : Mid c w s wi si R TS KS d) : c.toks.drop si.i = R := h.af.rem

theorem Mid.next (h : Mid c w s wi si R TS KS d) (hp : PS c wj si.next) (hf : Fr c wi si wj si.next) : Mid c w s wj si.next R.tail TS KS (d + 1) := ⟨hp, h.fr.trans hf, h.af.next, h.rp⟩

theorem Mid.grown (h : Mid c w s wi si R TS KS d) {row : Option Nat} (hg : wi.grownBy wj row) (hr : ∀ k, row = some k → ¬ Own c si k ∧ c.bp ≤ k ∧ w.heap.size ≤ k) : Mid c w s wj si R TS KS d :=
  ⟨h.ps.grown hg (fun k e => ⟨(hr k e).1, (hr k e).2.1⟩), h.fr.grown hg (fun k e => (hr k e).2.2), h.af, h.rp⟩

theorem Mid.below (h : Mid c w s wi si R TS KS d) (hb : Below wi.heap.size wi wj) : Mid c w s wj si R TS KS d := h.grown (grownBy_of_below hb none) (by simp)

theorem Mid.call (h : Mid c w s wi si R TS KS d) {ts : List T} {ks : List Nat} {e : Nat} (k : Mid c wi si wj sj R' ts ks e) : Mid c w s wj sj R' (TS ++ ts) (KS ++ ks) (d + e) :=
  ⟨k.ps, h.fr.trans k.fr, h.af.trans k.af, RepL.append (RepL.mono k.af.pre h.rp) k.rp⟩

theorem Mid.weak (h : Mid c w s wi si R TS KS d) : Mid c w s wi si R TS KS 0 := ⟨h.ps, h.fr, h.af.weak, h.rp⟩

theorem Mid.less (h : Mid c w s wi si R TS KS d) {e : Nat} (he : e ≤ d) : Mid c w s wi si R TS KS e := ⟨h.ps, h.fr, ⟨h.af.lv, h.af.rem, h.af.pre, h.af.size, by have := h.af.used; omega⟩, h.rp⟩

theorem Mid.lv (h : Mid c w s wi si R TS KS d) {lv : Int} (e : s.lv = lv) : si.lv = lv := h.af.lv.trans e

theorem Mid.room (h : Mid c w s wi si R TS KS (d + 1)) (hs : s.ns.length ≤ s.i + 1) : si.ns.length + 1 ≤ si.i + 1 := by
  have := h.af.used; have := h.af.size; omega

/-- What a walk from (w, s) answers: a node's number. -/
def PostN (c : Cx) (w : World) (s : St) (r : Res (List T)) (e : Ending) (w' : World) : Prop :=
  match r with
  | .ok ts R => ∃ s' k t, ts = [t] ∧ e = .returned (.int .i64 (k : Nat)) ∧ Mid c w s w' s' R [t] [k] 0
  | .err en p => Bad c w s en p e w'
  | .out => False

/-- A block's answer: a token more was passed over than nodes were made. -/
def PostB (c : Cx) (w : World) (s : St) (r : Res (List T)) (e : Ending) (w' : World) : Prop :=
  match r with
  | .ok ts R => ∃ s' k t, ts = [t] ∧ e = .returned (.int .i64 (k : Nat)) ∧ Mid c w s w' s' R [t] [k] 1
  | .err en p => Bad c w s en p e w'
  | .out => False

theorem PostN.cases {r : Res (List T)} {e : Ending} {w' : World} (h : PostN c w s r e w') :
    (∃ en p, r = .err en p ∧ Bad c w s en p e w') ∨ (∃ s' k t R, r = .ok [t] R ∧ e = .returned (.int .i64 (k : Nat)) ∧ Mid c w s w' s' R [t] [k] 0) := by
  cases r with
  | ok ts R =>
    obtain ⟨s', k, t, rfl, he, hm⟩ := h
    exact .inr ⟨s', k, t, R, rfl, he, hm⟩
  | err en p => exact .inl ⟨en, p, rfl, h⟩
  | out => exact h.elim

/-- A slice of numbers that nobody else holds: made since w. -/
structure Lst (c : Cx) (w wi : World) (si : St) (kv : Value) (KS : List Nat) : Prop where
  row : Row c wi kv KS
  new : ∀ k, kv.ownBlock = some k → ¬ Own c si k ∧ w.heap.size ≤ k ∧ c.bp < k

theorem Lst.nil : Lst c w wi si (.slice none 0 0) [] := ⟨World.ownsRow_nil _ _ _ _, by simp [Value.ownBlock]⟩

theorem ownsRow_same {w w' : World} {base e size : Nat} {v : Value} {n : Nat} {xs : List Value} (h : w.ownsRow base e size v n xs) (hk : ∀ k, v.ownBlock = some k → w'.heap[k]? = w.heap[k]?) : w'.ownsRow base e size v n xs := by
  refine ⟨h.1, ?_⟩
  rcases h.2 with hn | ⟨g, cap, cur, rfl, hb, hg, rest⟩
  · exact .inl hn
  · exact .inr ⟨g, cap, cur, rfl, hb, (hk g rfl).trans hg, rest⟩

theorem Lst.fr {kv : Value} (h : Lst c w wi si kv KS) (hf : Fr c wi si wj sj) : Lst c w wj sj kv KS :=
  ⟨ownsRow_same h.row (fun k e => hf.block k (h.row.lt k e).2 (h.new k e).1),
    fun k e => ⟨fun ho => (hf.own k ho).elim (h.new k e).1 (fun hs => by have := (h.row.lt k e).2; omega), (h.new k e).2⟩⟩

theorem Lst.below {kv : Value} (h : Lst c w wi si kv KS) (hb : Below wi.heap.size wi wj) : Lst c w wj si kv KS :=
  ⟨ownsRow_same h.row (fun k e => hb.block k (h.row.lt k e).2), h.new⟩

theorem Lst.older {kv : Value} {w0 : World} (h : Lst c w wi si kv KS) (hs : w0.heap.size ≤ w.heap.size) : Lst c w0 wi si kv KS :=
  ⟨h.row, fun k e => ⟨(h.new k e).1, Nat.le_trans hs (h.new k e).2.1, (h.new k e).2.2⟩⟩

/-- A literal of numbers, just made. -/
theorem Lst.made (h : Mid c w s wi si R TS KS d) (ks : List Nat) (hl : ks.length ≤ 16385) :
    Lst c w (wi.alloc (.cells (ints ks).toArray 3)) si (.slice (some ⟨wi.heap.size, 0, none⟩) ks.length ks.length) ks := by
  have hbp := h.ps.bp_lt
  refine ⟨⟨by simp [ints], .inr ⟨wi.heap.size, ks.length, (ints ks).toArray, rfl, by omega, heap_alloc_new wi _, Nat.le_refl _, by unfold maxLen; omega, by simp [ints], List.take_of_length_le (by simp [ints])⟩⟩, fun k e => ?_⟩
  have e' : wi.heap.size = k := by simpa [Value.ownBlock] using e
  subst e'
  exact ⟨fun ho => by have := (h.ps.own_ge ho).2; omega, h.fr.size, hbp⟩

/-- What a walk from (w, s) answers: a slice of numbers. -/
def PostL (c : Cx) (w : World) (s : St) (r : Res (List T)) (e : Ending) (w' : World) : Prop :=
  match r with
  | .ok ts R => ∃ s' v ks, e = .returned v ∧ Mid c w s w' s' R ts ks 0 ∧ Lst c w w' s' v ks
  | .err en p => Bad c w s en p e w'
  | .out => False

end

/-- A node more. -/
def St.push (s : St) (n : NodeA) (nv kv : Value) : St := { s with ns := s.ns ++ [n], nv := nv, kvs := s.kvs ++ [kv] }

structure Pushed (c : Cx) (w : World) (s : St) (n : NodeA) (kv : Value) (w' : World) (nv : Value) : Prop where
  ps : PS c w' (s.push n nv kv)
  os : w'.os = w.os
  tape : w'.tape = w.tape
  output : w'.output = w.output
  size : w.heap.size ≤ w'.heap.size
  block : ∀ k, k < w.heap.size → ¬ Own c s k → w'.heap[k]? = w.heap[k]?
  nv : nv.ownBlock = s.nv.ownBlock ∨ ∃ g, nv.ownBlock = some g ∧ w.heap.size ≤ g

theorem zipWith_snoc (ns : List NodeA) (kvs : List Value) (n : NodeA) (kv : Value) (h : kvs.length = ns.length) :
    nodeRow (ns ++ [n]) (kvs ++ [kv]) = nodeRow ns kvs ++ nodeVals n kv := by
  unfold nodeRow
  rw [List.zipWith_append h.symm]
  simp

theorem PS.pushed {c : Cx} {w w1 : World} {s : St} (H : PS c w s) (n : NodeA) (kv : Value) (hrow : Row c w kv n.kids) (hkv : ∀ k, kv.ownBlock = some k → ¬ Own c s k ∧ c.bp ≤ k)
    (hroom : s.ns.length + 1 ≤ s.i + 1) (hsmall : n.kids.length ≤ 16385) (g cap : Nat) (hgrow : w.grownBy w1 s.nv.ownBlock)
    (hown1 : w1.ownsRow (c.bp + 1) 32 5 (.slice (some ⟨g, 0, none⟩) (s.ns.length + 1) cap) (s.ns.length + 1) (nodeRow s.ns s.kvs ++ nodeVals n kv))
    (hat : s.nv.ownBlock = some g ∨ w.heap.size ≤ g) :
    Pushed c w s n kv (w1.setCell ⟨c.bp, 3, none⟩ (.slice (some ⟨g, 0, none⟩) (s.ns.length + 1) cap)) (.slice (some ⟨g, 0, none⟩) (s.ns.length + 1) cap) := by
  have hnb : ∀ k, s.nv.ownBlock = some k → c.bp + 1 ≤ k ∧ k < w.heap.size := H.ns.lt
  have hg : c.bp + 1 ≤ g := by
    rcases hat with e | e
    · exact (hnb _ e).1
    · have := H.bp_lt; omega
  have other : ∀ k, k ≠ c.bp → (w1.setCell ⟨c.bp, 3, none⟩ (.slice (some ⟨g, 0, none⟩) (s.ns.length + 1) cap)).heap[k]? = w1.heap[k]? := fun k hk => Below.heap_setCell w1 ⟨c.bp, 3, none⟩ _ k hk
  have keptS : ∀ {e size v' n xs}, w1.ownsRow (c.bp + 1) e size v' n xs → (w1.setCell ⟨c.bp, 3, none⟩ (.slice (some ⟨g, 0, none⟩) (s.ns.length + 1) cap)).ownsRow (c.bp + 1) e size v' n xs := fun h =>
    ownsRow_setCell_below h (a := ⟨c.bp, 3, none⟩) (by simp) _
  have hsame : ∀ k, k < w.heap.size → s.nv.ownBlock ≠ some k → k ≠ c.bp → (w1.setCell ⟨c.bp, 3, none⟩ (.slice (some ⟨g, 0, none⟩) (s.ns.length + 1) cap)).heap[k]? = w.heap[k]? := fun k hk hn hb => (other k hb).trans (hgrow.block k hk (Ne.symm hn))
  have hbp1 : w1.heap[c.bp]? = w.heap[c.bp]? := hgrow.block _ H.bp_lt (fun e => by have := hnb _ e.symm; omega)
  refine ⟨⟨?_, ?_, H.bl, H.i, H.len, H.last, ?_, ?_, ?_, ?_, ?_, ?_⟩, hgrow.os, hgrow.tape, hgrow.output, ?_, ?_, ?_⟩
  · rw [heap_set (hbp1.trans H.p)]
    simp [St.push]
  · intro i t ht j v hv
    refine (World.cell?_of_block (a := ⟨c.bl, i * 4 + j, none⟩) (hsame c.bl H.bl_lt (fun e => ?_) (by have := H.bl; omega))).trans (H.tok i t ht j v hv)
    have := hnb _ e; have := H.bl; omega
  · have e : (s.push n (.slice (some ⟨g, 0, none⟩) (s.ns.length + 1) cap) kv).ns.length = s.ns.length + 1 := by simp [St.push]
    rw [e]
    show (w1.setCell _ _).ownsRow _ _ _ _ _ (nodeRow (s.ns ++ [n]) (s.kvs ++ [kv]))
    rw [zipWith_snoc _ _ _ _ H.kvs]
    exact keptS hown1
  · simp [St.push, H.kvs]
  · intro i n' kv' h1 h2
    refine keptS ?_
    have h1' : (s.ns ++ [n])[i]? = some n' := h1
    have h2' : (s.kvs ++ [kv])[i]? = some kv' := h2
    by_cases hi : i < s.ns.length
    · rw [List.getElem?_append_left hi] at h1'
      rw [List.getElem?_append_left (by rw [H.kvs]; exact hi)] at h2'
      refine (H.rows i n' kv' h1' h2').kept hgrow ?_
      cases e : kv'.ownBlock with
      | none => exact .inl rfl
      | some k => exact .inr (Ne.symm (H.sep kv' (List.mem_of_getElem? h2') k e))
    · have hlt : i < (s.ns ++ [n]).length := (List.getElem?_eq_some_iff.1 h1').1
      have hi' : i = s.ns.length := by simp at hlt; omega
      subst hi'
      simp at h1'
      rw [← H.kvs] at h2'
      simp at h2'
      subst h1'; subst h2'
      refine World.ownsRow.kept hrow hgrow ?_
      cases e : kv.ownBlock with
      | none => exact .inl rfl
      | some k => exact .inr (fun e' => (hkv k e).1 (.inr (.inl e'.symm)))
  · intro kv' hm k hk e'
    have e : g = k := by simpa [St.push, Value.ownBlock] using e'
    subst e
    have hm' : kv' ∈ s.kvs ++ [kv] := hm
    rcases List.mem_append.1 hm' with hm' | hm'
    · rcases hat with e | e
      · exact H.sep kv' hm' g hk e
      · have := (H.own_ge (.inr (.inr ⟨kv', hm', hk⟩))).2; omega
    · rw [List.mem_singleton] at hm'
      subst hm'
      rcases hat with e | e
      · exact (hkv g hk).1 (.inr (.inl e))
      · have := World.ownsRow.lt hrow g hk; omega
  · simp [St.push]; omega
  · intro n' hn'
    have hm' : n' ∈ s.ns ++ [n] := hn'
    rcases List.mem_append.1 hm' with hm' | hm'
    · exact H.small n' hm'
    · rw [List.mem_singleton] at hm'; subst hm'; exact hsmall
  · have := hgrow.size; simpa [World.setCell] using this
  · intro k hk hn
    exact hsame k hk (fun e => hn (.inr (.inl e))) (fun e => hn (.inl e))
  · rcases hat with e | e
    · exact .inl (by rw [e]; rfl)
    · exact .inr ⟨g, rfl, e⟩

theorem Fr.push {c : Cx} {w0 w w' : World} {s0 s : St} {n : NodeA} {kv nv : Value} (h : Fr c w0 s0 w s) (hp : Pushed c w s n kv w' nv) (hk : ∀ k, kv.ownBlock = some k → w0.heap.size ≤ k) :
    Fr c w0 s0 w' (s.push n nv kv) :=
  ⟨hp.os.trans h.os, hp.tape.trans h.tape, hp.output.trans h.output, Nat.le_trans h.size hp.size,
    fun b hb hn => (hp.block b (Nat.lt_of_lt_of_le hb h.size) (fun ho => by
      rcases h.own b ho with h' | h'
      · exact hn h'
      · omega)).trans (h.block b hb hn),
    fun b hb => by
      have old : Own c s b → Own c s0 b ∨ w0.heap.size ≤ b := h.own b
      rcases hb with rfl | hb | ⟨kv', hm, hb⟩
      · exact old (.inl rfl)
      · rcases hp.nv with e | ⟨g, e, hg⟩
        · exact old (.inr (.inl (e ▸ hb)))
        · right
          have hb' : nv.ownBlock = some b := hb
          rw [e] at hb'
          cases hb'
          exact Nat.le_trans h.size hg
      · have hm' : kv' ∈ s.kvs ++ [kv] := hm
        rcases List.mem_append.1 hm' with hm' | hm'
        · exact old (.inr (.inr ⟨kv', hm', hb⟩))
        · rw [List.mem_singleton] at hm'; subst hm'; exact .inr (hk b hb)⟩

theorem After.push {c : Cx} {s0 s : St} {rem : List Tok} {ts : List T} {d : Nat} (h : After c s0 s rem ts (d + 1)) (kind pos : Nat) (text : List UInt8) (num : Nat) (ks : List Nat) (nv kv : Value) :
    After c s0 (s.push ⟨kind, pos, text, num, ks⟩ nv kv) rem [.node kind pos text num ts] d :=
  ⟨h.lv, h.rem, h.pre.trans (List.prefix_append _ _), by simp [St.push, h.size, sizeL, T.size]; omega, by have := h.used; simp [St.push, sizeL, T.size]; omega⟩

theorem Rep.push {s : St} {ts : List T} {ks : List Nat} (h : RepL s.ns ks ts) (kind pos : Nat) (text : List UInt8) (num : Nat) (nv kv : Value) :
    Rep (s.push ⟨kind, pos, text, num, ks⟩ nv kv).ns s.ns.length (.node kind pos text num ts) :=
  ⟨ks, by simp [St.push], RepL.mono (List.prefix_append _ _) h⟩

/-- A node is made of all that stands. -/
theorem Mid.node {c : Cx} {w wi wj : World} {s si : St} {R : List Tok} {TS : List T} {KS : List Nat} {d kind pos : Nat} {text : List UInt8} {num : Nat} {kv nv : Value}
    (h : Mid c w s wi si R TS KS (d + 1)) (hp : Pushed c wi si ⟨kind, pos, text, num, KS⟩ kv wj nv) (hk : Lst c w wi si kv KS) :
    Mid c w s wj (si.push ⟨kind, pos, text, num, KS⟩ nv kv) R [.node kind pos text num TS] [si.ns.length] d :=
  ⟨hp.ps, h.fr.push hp (fun k e => (hk.new k e).2.1), h.af.push .., RepL.one (Rep.push h.rp ..)⟩

theorem Mid.kids_le {c : Cx} {w wi : World} {s si : St} {R : List Tok} {TS : List T} {KS : List Nat} {d : Nat} (h : Mid c w s wi si R TS KS d) : KS.length ≤ 16385 := by
  have h1 := RepL.length h.rp
  have h2 : TS.length ≤ sizeL TS := by
    clear h h1
    induction TS with
    | nil => simp
    | cons t ts ih => cases t; simp [sizeL, T.size]; omega
  have := h.af.used
  have := h.ps.i
  have := h.ps.len
  omega

/-- A number is appended to a slice of the walk's own. -/
theorem Mid.append {c : Cx} {w wi wi' w1 : World} {s si : St} {R : List Tok} {TS : List T} {KS : List Nat} {d : Nat} {kv : Value} {ks : List Nat} {k g cap : Nat}
    (h : Mid c w s wi si R TS KS d) (l : Lst c w wi si kv ks) (h0 : wi.grownBy wi' none) (hg : wi'.grownBy w1 kv.ownBlock)
    (hown : w1.ownsRow (c.bp + 1) 3 1 (.slice (some ⟨g, 0, none⟩) (ks.length + 1) cap) (ks.length + 1) (ints ks ++ [.int .i64 k]))
    (hat : kv.ownBlock = some g ∨ wi.heap.size ≤ g) :
    Mid c w s w1 si R TS KS d ∧ Lst c w w1 si (.slice (some ⟨g, 0, none⟩) (ks.length + 1) cap) (ks ++ [k]) := by
  have hgg := grownBy_trans h0 hg
  have hbp := h.ps.bp_lt
  refine ⟨h.grown hgg (fun k e => ?_), ⟨?_, fun k' e => ?_⟩⟩
  · have := l.new k e.symm.symm
    exact ⟨this.1, by omega, this.2.1⟩
  · show w1.ownsRow _ _ _ _ (ks ++ [k]).length (ints (ks ++ [k]))
    have e1 : ints (ks ++ [k]) = ints ks ++ [.int .i64 k] := by simp [ints]
    rw [e1, List.length_append]
    exact hown
  · have e' : g = k' := by simpa [Value.ownBlock] using e
    subst e'
    rcases hat with e | e
    · exact l.new _ e
    · exact ⟨fun ho => by have := (h.ps.own_ge ho).2; omega, Nat.le_trans h.fr.size e, by omega⟩

theorem PostN.fin {c : Cx} {w w' : World} {s s' : St} {R : List Tok} {t : T} {k d : Nat} {r : Res (List T)} (m : Mid c w s w' s' R [t] [k] d) (he : r = .ok [t] R) : PostN c w s r (.returned (.int .i64 (k : Nat))) w' := by
  subst he
  exact ⟨_, _, _, rfl, rfl, m.weak⟩

theorem PostN.bad {c : Cx} {w w' : World} {s : St} {en p : Nat} {e : Ending} {r : Res (List T)} (h : Bad c w s en p e w') (he : r = .err en p) : PostN c w s r e w' := by
  subst he
  exact h

theorem PostB.fin {c : Cx} {w w' : World} {s s' : St} {R : List Tok} {t : T} {k d : Nat} {r : Res (List T)} (m : Mid c w s w' s' R [t] [k] (d + 1)) (he : r = .ok [t] R) : PostB c w s r (.returned (.int .i64 (k : Nat))) w' := by
  subst he
  exact ⟨_, _, _, rfl, rfl, m.less (by omega)⟩

theorem PostB.bad {c : Cx} {w w' : World} {s : St} {en p : Nat} {e : Ending} {r : Res (List T)} (h : Bad c w s en p e w') (he : r = .err en p) : PostB c w s r e w' := by
  subst he
  exact h

theorem PostL.fin {c : Cx} {w w' : World} {s s' : St} {R : List Tok} {ts : List T} {ks : List Nat} {v : Value} {d : Nat} {r : Res (List T)} (m : Mid c w s w' s' R ts ks d) (l : Lst c w w' s' v ks) (he : r = .ok ts R) : PostL c w s r (.returned v) w' := by
  subst he
  exact ⟨_, _, _, rfl, m.weak, l⟩

theorem PostL.bad {c : Cx} {w w' : World} {s : St} {en p : Nat} {e : Ending} {r : Res (List T)} (h : Bad c w s en p e w') (he : r = .err en p) : PostL c w s r e w' := by
  subst he
  exact h

/-- A token copied into a variable of the walk's own. -/
structure Held (c : Cx) (w : World) (s : St) (B : Nat) (t : Tok) : Prop where
  cells : w.heap[B]? = some (.cells (tokVals t).toArray 59 (0, 0))
  free : ¬ Own c s B

section
variable {c : Cx} {w wi wj : World} {s si sj : St} {R : List Tok} {TS : List T} {KS : List Nat} {d B : Nat} {t : Tok}

theorem Mid.held (m : Mid c w s wi si R TS KS d) : Mid c w s ((wi.alloc (.cells (tokVals (hd R)).toArray 59)).drew) si R TS KS d ∧ Held c ((wi.alloc (.cells (tokVals (hd R)).toArray 59)).drew) si wi.heap.size (hd R) :=
  ⟨m.below (((Below.refl _ _).alloc (Nat.le_refl _) _).drew), heap_alloc_new wi _, fun ho => by have := (m.ps.own_ge ho).2; omega⟩

theorem Held.lt (h : Held c wi si B t) : B < wi.heap.size := (Array.getElem?_eq_some_iff.1 h.cells).1

theorem Held.fr (h : Held c wi si B t) (hf : Fr c wi si wj sj) : Held c wj sj B t :=
  ⟨(hf.block B h.lt h.free).trans h.cells, fun ho => (hf.own B ho).elim h.free (fun hs => by have := h.lt; omega)⟩

theorem Held.below (h : Held c wi si B t) (hb : Below wi.heap.size wi wj) : Held c wj si B t := ⟨(hb.block B h.lt).trans h.cells, h.free⟩

theorem Held.grown (h : Held c wi si B t) {row : Option Nat} (hg : wi.grownBy wj row) (hr : row ≠ some B) : Held c wj si B t := ⟨(hg.block B h.lt (Ne.symm hr)).trans h.cells, h.free⟩

theorem Held.c0 (h : Held c wi si B t) : wi.cell? ⟨B, 0, none⟩ = some (.int .u8 t.kind) := by rw [cell_of_row _ _ _ _ _ _ h.cells]; rfl
theorem Held.c1 (h : Held c wi si B t) : wi.cell? ⟨B, 1, none⟩ = some (.int .i64 t.pos) := by rw [cell_of_row _ _ _ _ _ _ h.cells]; rfl
theorem Held.c2 (h : Held c wi si B t) : wi.cell? ⟨B, 2, none⟩ = some (.string ⟨t.text.toArray⟩) := by rw [cell_of_row _ _ _ _ _ _ h.cells]; rfl
theorem Held.c3 (h : Held c wi si B t) : wi.cell? ⟨B, 3, none⟩ = some (.float .f64 t.num) := by rw [cell_of_row _ _ _ _ _ _ h.cells]; rfl

/-- What a node's making leaves as it was. -/
structure Kept (c : Cx) (w : World) (s : St) (kv : Value) (w' : World) (s' : St) : Prop where
  size : w.heap.size ≤ w'.heap.size
  block : ∀ k, k < w.heap.size → ¬ Own c s k → w'.heap[k]? = w.heap[k]?
  own : ∀ k, Own c s' k → Own c s k ∨ w.heap.size ≤ k ∨ kv.ownBlock = some k

theorem Pushed.kept {n : NodeA} {kv nv : Value} (hp : Pushed c wi si n kv wj nv) : Kept c wi si kv wj (si.push n nv kv) := by
  refine ⟨hp.size, hp.block, fun k ho => ?_⟩
  rcases ho with e | ho | ⟨kv', hm, ho⟩
  · exact .inl (.inl e)
  · rcases hp.nv with e | ⟨g, e, hg⟩
    · exact .inl (.inr (.inl (e ▸ ho)))
    · have ho' : nv.ownBlock = some k := ho
      rw [e] at ho'
      cases ho'
      exact .inr (.inl hg)
  · have hm' : kv' ∈ si.kvs ++ [kv] := hm
    rcases List.mem_append.1 hm' with hm' | hm'
    · exact .inl (.inr (.inr ⟨kv', hm', ho⟩))
    · rw [List.mem_singleton] at hm'
      subst hm'
      exact .inr (.inr ho)

theorem Held.kept {kv : Value} (h : Held c wi si B t) (hp : Kept c wi si kv wj sj) (hk : kv.ownBlock ≠ some B) : Held c wj sj B t :=
  ⟨(hp.block B h.lt h.free).trans h.cells, fun ho => (hp.own B ho).elim h.free (fun e => e.elim (fun e => by have := h.lt; omega) hk)⟩

theorem Lst.kept {kv l : Value} {ks : List Nat} (h : Lst c w wi si l ks) (hp : Kept c wi si kv wj sj) (hk : ∀ k, l.ownBlock = some k → kv.ownBlock ≠ some k) : Lst c w wj sj l ks :=
  ⟨ownsRow_same h.row (fun k e => hp.block k (h.row.lt k e).2 (h.new k e).1),
    fun k e => ⟨fun ho => (hp.own k ho).elim (h.new k e).1 (fun o => o.elim (fun o => by have := (h.row.lt k e).2; omega) (hk k e)), (h.new k e).2⟩⟩
end

end Bf

/- The parser's small steps, walked. -/
namespace Go.Proofs.YtgdamcmfdhhheaaGreatDoor
open Go.RowKit Bf

@[go_sem] theorem run_store_float {P : Program} (w : World) (a : Addr) (m : Mode) (k : FloatKind) (n : Nat) : (store a (.float k n) m).run P w = stored P w a (.float k n) m := run_store P w a _ m rfl

theorem ret_bool {a b : Bool} (h : a = b) : Ending.returned (.bool a) = .returned (.bool b) := by rw [h]

set_option maxHeartbeats 400000 in
theorem is_calls {c : Cx} {w : World} {s : St} {rem : List Tok} (h : PS c w s) (hr : c.toks.drop s.i = rem) (x : List UInt8) :
    Calls Tryz.prog 90 #[.pointer (some ⟨c.bp, 0, none⟩), .string ⟨x.toArray⟩] w fun e w' => e = .returned (.bool (isTok (hd rem) x)) ∧ Below w.heap.size w w' := by
  have h0 := h.c0
  have h1 := h.c1
  have hbp := h.bp_lt
  have hbl := h.bl_lt
  have hi := h.i
  have hlen := h.len
  have t0 := h.t0 hr
  have t1 := h.t1 hr
  have t2 := h.t2 hr
  have t3 := h.t3 hr
  clear h hr
  generalize hd rem = t at *
  obtain ⟨kind, pos, text, num⟩ := t
  simp only at t0 t1 t2 t3
  go_enter Tryz.func90, Tryz.ntmps90
  go_wp2
  go_region
  go_wp2
  all_goals
    go_ret
    refine ⟨ret_bool ?_, ((Below.refl _ _).alloc (Nat.le_refl _) _).drew⟩
    simp_all [isTok]
    try first | omega | (rw [Bool.eq_iff_iff]; simp; omega)

set_option maxHeartbeats 400000 in
theorem fail_calls {c : Cx} {w : World} {s : St} {rem : List Tok} (h : PS c w s) (hr : c.toks.drop s.i = rem) (en : Nat) :
    Calls Tryz.prog 123 #[.pointer (some ⟨c.bp, 0, none⟩), .int .i64 en] w fun e w' => Bad c w s en (hd rem).pos e w' := by
  have H := h
  have h0 := h.c0
  have h1 := h.c1
  have hbp := h.bp_lt
  have hbl := h.bl_lt
  have hi := h.i
  have hlen := h.len
  have t1 := h.t1 hr
  clear h hr
  go_enter Tryz.func123, Tryz.ntmps123
  go_wp2
  go_region_dies
  all_goals exact ⟨rfl, rfl, s, H.below (Below.refl _ _).drew, (Fr.refl c w s).below (Below.refl _ _).drew⟩

set_option maxHeartbeats 400000 in
theorem take_yes {c : Cx} {w : World} {s : St} {rem : List Tok} (h : PS c w s) (hr : c.toks.drop s.i = rem) (x : List UInt8) (hx : isTok (hd rem) x = true) :
    Calls Tryz.prog 92 #[.pointer (some ⟨c.bp, 0, none⟩), .string ⟨x.toArray⟩] w fun e w' => e = .returned (.bool true) ∧ PS c w' s.next ∧ Fr c w s w' s.next := by
  have hm : s.i + 1 < c.toks.length := h.more hr (by intro e; simp [isTok, e] at hx)
  have hlen := h.len
  have fz := h.fz 1
  go_enter Tryz.func92, Tryz.ntmps92
  go_wp2_with fail
  refine (is_calls h hr x).mono ?_
  rintro e w1 ⟨rfl, hb⟩
  have k := h.below hb
  have k1 := k.c1
  have f1 := k.fz 1
  have hk := k.next hm
  have hf := ((Fr.refl c w s).below hb).trans hk.2
  have kp := hk.1
  clear hk k hb fz h
  go_wp2
  go_ret
  exact ⟨rfl, kp, hf⟩

set_option maxHeartbeats 400000 in
theorem take_no {c : Cx} {w : World} {s : St} {rem : List Tok} (h : PS c w s) (hr : c.toks.drop s.i = rem) (x : List UInt8) (hx : isTok (hd rem) x = false) :
    Calls Tryz.prog 92 #[.pointer (some ⟨c.bp, 0, none⟩), .string ⟨x.toArray⟩] w fun e w' => e = .returned (.bool false) ∧ Below w.heap.size w w' := by
  go_enter Tryz.func92, Tryz.ntmps92
  go_wp2_with fail
  refine (is_calls h hr x).mono ?_
  rintro e w1 ⟨rfl, hb⟩
  clear h
  go_wp2
  go_ret
  exact ⟨rfl, hb⟩

set_option maxHeartbeats 400000 in
theorem need_yes {c : Cx} {w : World} {s : St} {rem : List Tok} (h : PS c w s) (hr : c.toks.drop s.i = rem) (x : List UInt8) (hx : isTok (hd rem) x = true) :
    Calls Tryz.prog 103 #[.pointer (some ⟨c.bp, 0, none⟩), .string ⟨x.toArray⟩] w fun e w' => e = .returned (.tuple #[]) ∧ PS c w' s.next ∧ Fr c w s w' s.next := by
  go_enter Tryz.func103, Tryz.ntmps103
  go_wp2_with fail
  refine (take_yes h hr x hx).mono ?_
  rintro e w1 ⟨rfl, hp, hf⟩
  go_wp2
  go_end0
  exact ⟨rfl, hp, hf⟩

set_option maxHeartbeats 400000 in
theorem need_no {c : Cx} {w : World} {s : St} {rem : List Tok} (h : PS c w s) (hr : c.toks.drop s.i = rem) (x : List UInt8) (hx : isTok (hd rem) x = false) :
    Calls Tryz.prog 103 #[.pointer (some ⟨c.bp, 0, none⟩), .string ⟨x.toArray⟩] w fun e w' => Bad c w s 5 (hd rem).pos e w' := by
  go_enter Tryz.func103, Tryz.ntmps103
  go_wp2_with fail
  refine (take_no h hr x hx).mono ?_
  rintro e w1 ⟨rfl, hb⟩
  have k := h.below hb
  have kf := (Fr.refl c w s).below hb
  clear hb h
  go_wp2_with fail
  refine (fail_calls k hr 5).mono ?_
  rintro e w2 hbad
  have hbad2 := Bad.trans kf hbad
  obtain ⟨rfl, _⟩ := hbad
  exact ⟨rfl, hbad2⟩

set_option maxHeartbeats 400000 in
theorem name_yes {c : Cx} {w : World} {s : St} {rem : List Tok} (h : PS c w s) (hr : c.toks.drop s.i = rem) (hx : ((hd rem).kind == 1) = true) :
    Calls Tryz.prog 95 #[.pointer (some ⟨c.bp, 0, none⟩)] w fun e w' => e = .returned (.string ⟨(hd rem).text.toArray⟩) ∧ PS c w' s.next ∧ Fr c w s w' s.next := by
  have H := h
  have hk1 : (hd rem).kind = 1 := by simpa using hx
  have hm : s.i + 1 < c.toks.length := h.more hr (by omega)
  have h0 := h.c0
  have h1 := h.c1
  have hbp := h.bp_lt
  have hbl := h.bl_lt
  have hi := h.i
  have hlen := h.len
  have t0 := h.t0 hr
  have t1 := h.t1 hr
  have t2 := h.t2 hr
  have t3 := h.t3 hr
  have fz := h.fz 1
  rw [hk1] at t0
  clear h hr hx hk1
  go_enter Tryz.func95, Tryz.ntmps95
  go_wp2
  go_region
  go_wp2
  go_ret
  exact ⟨rfl, (H.next hm).1.below ((Below.refl _ _).alloc (Nat.le_refl _) _).drew, (H.next hm).2.below ((Below.refl _ _).alloc (Nat.le_refl _) _).drew⟩

theorem name_no {c : Cx} {w : World} {s : St} {rem : List Tok} (h : PS c w s) (hr : c.toks.drop s.i = rem) (hx : ((hd rem).kind == 1) = false) :
    Calls Tryz.prog 95 #[.pointer (some ⟨c.bp, 0, none⟩)] w fun e w' => Bad c w s 5 (hd rem).pos e w' := by
  have H := h
  have hk1 : (((hd rem).kind : Int) == 1) = false := by rw [← hx, Bool.eq_iff_iff]; simp; omega
  have h0 := h.c0
  have h1 := h.c1
  have hbp := h.bp_lt
  have hbl := h.bl_lt
  have hi := h.i
  have hlen := h.len
  have t0 := h.t0 hr
  have t1 := h.t1 hr
  have t2 := h.t2 hr
  have t3 := h.t3 hr
  clear h hx
  go_enter Tryz.func95, Tryz.ntmps95
  go_wp2
  go_region
  go_wp2_with fail
  have hb : Below w.heap.size w ((w.alloc (.cells #[.int .u8 (hd rem).kind, .int .i64 (hd rem).pos, .string ⟨(hd rem).text.toArray⟩, .float .f64 (hd rem).num] 59)).drew) := ((Below.refl _ _).alloc (Nat.le_refl _) _).drew
  refine (fail_calls (H.below hb) hr 5).mono ?_
  rintro e w2 hbad
  have hbad2 := Bad.trans ((Fr.refl c w s).below hb) hbad
  obtain ⟨rfl, _⟩ := hbad
  exact ⟨rfl, hbad2⟩

theorem Tryz.infoNode : (Tryz.prog.info? 32).map (fun i => (i.zero, i.size, i.bytes)) = some (some (.agg #[.int .u8 0, .int .i64 0, .string ⟨#[]⟩, .float .f64 0, .slice none 0 0]), 5, 64) := by kernel_rfl

theorem Row.form {c : Cx} {w : World} {v : Value} {ks : List Nat} (h : Row c w v ks) : ∃ a l k, v = .slice a l k := by
  rcases h.2 with ⟨rfl, _⟩ | ⟨g, cap, cur, rfl, _⟩
  · exact ⟨_, _, _, rfl⟩
  · exact ⟨_, _, _, rfl⟩

theorem ownsRow_drew {w : World} {base e size : Nat} {v : Value} {n : Nat} {xs : List Value} (h : w.ownsRow base e size v n xs) : w.drew.ownsRow base e size v n xs := h

theorem heap2 (w : World) (o1 o2 : Obj) : (((w.alloc o1).alloc o2).drew).heap[w.heap.size + 1]? = some o2 := by
  show ((w.heap.push o1).push o2)[w.heap.size + 1]? = _
  rw [Array.getElem?_push, if_pos (by simp)]

set_option maxRecDepth 100000 in
set_option maxHeartbeats 800000 in
theorem add_calls {c : Cx} {w : World} {s : St} (h : PS c w s) (n : NodeA) (kv : Value) (hrow : Row c w kv n.kids) (hkv : ∀ k, kv.ownBlock = some k → ¬ Own c s k ∧ c.bp ≤ k)
    (hroom : s.ns.length + 1 ≤ s.i + 1) (hsmall : n.kids.length ≤ 16385) :
    Calls Tryz.prog 104 #[.pointer (some ⟨c.bp, 0, none⟩), .agg (nodeVals n kv).toArray] w fun e w' =>
      e = .returned (.int .i64 s.ns.length) ∧ ∃ nv, Pushed c w s n kv w' nv := by
  have H := h
  obtain ⟨i0, hi0, hz0, hz1, hz2⟩ := info_parts Tryz.infoNode
  obtain ⟨kind, pos, text, num, kids⟩ := n
  have h3 := h.c3
  have hbp := h.bp_lt
  have hi := h.i
  have hlen := h.len
  have hown := h.ns
  have f3 := h.fz 3
  have hne : s.nv.ownBlock ≠ some c.bp := fun e => by have := h.ns.lt _ e; omega
  have hne1 : s.nv.ownBlock ≠ some w.heap.size := fun e => by have := hown.lt _ e; omega
  have hold : ∀ o1 o2, (((w.alloc o1).alloc o2).drew).heap[c.bp]? = w.heap[c.bp]? := fun o1 o2 => by
    show ((w.alloc _).alloc _).heap[c.bp]? = _
    rw [Below.heap_alloc _ _ _ (by simp; omega), Below.heap_alloc _ _ _ hbp]
  have hfz : ∀ o1 o2, (((w.alloc o1).alloc o2).drew).frozen? ⟨c.bp, 3, none⟩ = false := fun o1 o2 => (World.frozen?_of_block (w := w) (hold o1 o2)).trans f3
  have hcz : ∀ o1 o2, (((w.alloc o1).alloc o2).drew).cell? ⟨c.bp, 3, none⟩ = some s.nv := fun o1 o2 => (World.cell?_of_block (w := w) (hold o1 o2)).trans h3
  obtain ⟨ka, kl, kc, rfl⟩ := Row.form hrow
  clear h
  change Calls _ _ #[.pointer (some ⟨c.bp, 0, none⟩), .agg #[.int .u8 kind, .int .i64 pos, .string ⟨text.toArray⟩, .float .f64 num, .slice ka kl kc]] _ _
  go_enter Tryz.func104, Tryz.ntmps104
  go_wp2
  go_region_law
    ((refine step_append_lies _ (by rfl) _ _ _ (by rfl) (c.bp + 1) 32 i0 _ 5 64 Tryz.underlying23 hi0 hz0 hz1 hz2 rfl (by omega) s.nv s.ns.length (nodeRow s.ns s.kvs) (by rfl) (((hown.alloc _).alloc _).drew)
        ⟨w.heap.size + 1, 0, none⟩ 1 1 (nodeVals ⟨kind, pos, text, num, kids⟩ (.slice ka kl kc)) (by rfl) (by rfl) (World.news_of_block (cs := (nodeVals ⟨kind, pos, text, num, kids⟩ (.slice ka kl kc)).toArray) (t := 32) (fr := (0, 0)) (heap2 w _ _)) (by simp [nodeVals, Value.oneCell'])
        (by omega) (by unfold maxLen; omega) (by omega) (by simp; omega) (w.heap.size + 2) (by simp) ?_; intro gg cap w1 hown1 hgrow hat hlt; have hf1 : w1.frozen? ⟨c.bp, 3, none⟩ = false := (by rw [hgrow.frozen_far _ (by simp; omega) (Ne.symm hne)]; exact hfz _ _); have hc1 : w1.cell? ⟨c.bp, 3, none⟩ = some s.nv := (by rw [hgrow.cell_far _ (by simp; omega) (Ne.symm hne)]; exact hcz _ _)))
  all_goals
    go_wp2
    go_ret
    have hg2 : w.grownBy w1 s.nv.ownBlock := grownBy_trans (grownBy_of_below ((((Below.refl _ _).alloc (Nat.le_refl _) _).alloc (by simp) _).drew) none) hgrow
    exact ⟨rfl, _, H.pushed ⟨kind, pos, text, num, kids⟩ (.slice ka kl kc) hrow hkv hroom hsmall gg cap hg2 hown1 (hat.imp id (by omega))⟩

set_option maxHeartbeats 400000 in
theorem node_calls {c : Cx} {w : World} {s : St} (h : PS c w s) (kind pos : Nat) (text : List UInt8) (ks : List Nat) (kv : Value) (hrow : Row c w kv ks) (hkv : ∀ k, kv.ownBlock = some k → ¬ Own c s k ∧ c.bp ≤ k)
    (hroom : s.ns.length + 1 ≤ s.i + 1) (hsmall : ks.length ≤ 16385) :
    Calls Tryz.prog 57 #[.pointer (some ⟨c.bp, 0, none⟩), .int .u8 kind, .int .i64 pos, .string ⟨text.toArray⟩, kv] w fun e w' =>
      e = .returned (.int .i64 s.ns.length) ∧ ∃ nv, Pushed c w s ⟨kind, pos, text, 0, ks⟩ kv w' nv := by
  obtain ⟨ka, kl, kc, rfl⟩ := Row.form hrow
  go_enter Tryz.func57, Tryz.ntmps57
  go_wp2_with fail
  refine (add_calls h ⟨kind, pos, text, 0, ks⟩ (.slice ka kl kc) hrow hkv hroom hsmall).mono ?_
  rintro e w1 ⟨rfl, hp⟩
  go_wp2
  go_ret
  exact ⟨rfl, hp⟩

end Go.Proofs.YtgdamcmfdhhheaaGreatDoor

/- The parser's small steps, walked: two tokens, levels. -/
namespace Go.Proofs.YtgdamcmfdhhheaaGreatDoor
open Go.RowKit Bf

theorem rem_second {l : List Tok} {i : Nat} (h : i + 1 < l.length) {rem : List Tok} (hr : l.drop i = rem) : l[i + 1]? = some (hd rem.tail) :=
  rem_eq h (rem_tail hr)

set_option maxHeartbeats 400000 in
theorem is2_end {c : Cx} {w : World} {s : St} {rem : List Tok} (h : PS c w s) (hr : c.toks.drop s.i = rem) (x : List UInt8) (h0 : (hd rem).kind = 0) :
    Calls Tryz.prog 94 #[.pointer (some ⟨c.bp, 0, none⟩), .string ⟨x.toArray⟩] w fun e w' => e = .returned (.bool (is2 x rem)) ∧ Below w.heap.size w w' := by
  have e2 : is2 x rem = false := by simp [is2, h0]
  rw [e2]
  have h0' := h.c0
  have h1 := h.c1
  have hbp := h.bp_lt
  have hbl := h.bl_lt
  have hi := h.i
  have hlen := h.len
  have t0 := h.t0 hr
  rw [h0] at t0
  clear h hr e2 h0
  go_enter Tryz.func94, Tryz.ntmps94
  go_wp2
  go_region
  all_goals
    go_wp2
    go_ret
    exact ⟨rfl, (Below.refl _ _).drew⟩

set_option maxHeartbeats 400000 in
theorem is2_more {c : Cx} {w : World} {s : St} {rem : List Tok} (h : PS c w s) (hr : c.toks.drop s.i = rem) (x : List UInt8) (h0 : (hd rem).kind ≠ 0) :
    Calls Tryz.prog 94 #[.pointer (some ⟨c.bp, 0, none⟩), .string ⟨x.toArray⟩] w fun e w' => e = .returned (.bool (is2 x rem)) ∧ Below w.heap.size w w' := by
  have hm := h.more hr h0
  have e2 : is2 x rem = ((hd rem.tail).kind == 5 && (hd rem.tail).text == x) := by simp [is2, h0]
  rw [e2]
  have h0' := h.c0
  have h1 := h.c1
  have hbp := h.bp_lt
  have hbl := h.bl_lt
  have hi := h.i
  have hlen := h.len
  have t0 := h.t0 hr
  have u0 := h.tok _ _ (rem_second hm hr) 0 _ rfl
  have u1 := h.tok _ _ (rem_second hm hr) 1 _ rfl
  have u2 := h.tok _ _ (rem_second hm hr) 2 _ rfl
  have u3 := h.tok _ _ (rem_second hm hr) 3 _ rfl
  have hk : (((hd rem).kind : Int) == 0) = false := by rw [beq_eq_false_iff_ne]; omega
  clear h hr e2 h0
  generalize hd rem.tail = t at *
  obtain ⟨kind, pos, text, num⟩ := t
  simp only [Nat.add_zero] at u0 u1 u2 u3
  go_enter Tryz.func94, Tryz.ntmps94
  go_wp2
  go_region
  all_goals go_wp2
  all_goals go_region
  all_goals go_wp2
  all_goals
    go_ret
    refine ⟨ret_bool ?_, ((Below.refl _ _).alloc (Nat.le_refl _) _).drew.drew⟩
  all_goals
    rw [Bool.eq_iff_iff]
    simp
    try omega

set_option maxRecDepth 100000 in
set_option maxHeartbeats 400000 in
theorem deeper_ok {c : Cx} {w : World} {s : St} (h : PS c w s) {lv : Nat} (hlv : s.lv = lv) (h200 : ¬ 200 < lv + 1) :
    Calls Tryz.prog 89 #[.pointer (some ⟨c.bp, 0, none⟩)] w fun e w' =>
      e = .returned (.func (.func 124) #[] #[.pointer (some ⟨w.heap.size, 0, none⟩)]) ∧ PS c w' (s.at_ ((lv : Int) + 1)) ∧ Fr c w s w' (s.at_ ((lv : Int) + 1)) ∧
      w'.cell? ⟨w.heap.size, 0, none⟩ = some (.pointer (some ⟨c.bp, 0, none⟩)) ∧ w.heap.size < w'.heap.size := by
  have h2 := h.c2
  rw [hlv] at h2
  have hbp := h.bp_lt
  have hfz := h.fz 2
  have ht : ¬ (200 : Int) < (lv : Int) + 1 := by omega
  have hmf : ∀ (fn : Fn) (first cap : Array Value) (w : World), (Instr.makeFunc fn first cap).run Tryz.prog w = .ok (.func fn first cap) w := fun _ _ _ _ => rfl
  go_enter Tryz.func89, Tryz.ntmps89
  go_wp2_with fail
  go_ret
  have hb := h.level ((lv : Int) + 1)
  refine ⟨rfl, hb.1.below ((Below.refl _ _).alloc (Nat.le_refl _) _), hb.2.below ((Below.refl _ _).alloc (Nat.le_refl _) _), ?_, ?_⟩
  · have e : (w.setCell ⟨c.bp, 2, none⟩ (.int .i64 ((lv : Int) + 1))).heap.size = w.heap.size := by simp [World.setCell]
    have e2 := heap_alloc_new (w.setCell ⟨c.bp, 2, none⟩ (.int .i64 ((lv : Int) + 1))) (.cells #[.pointer (some ⟨c.bp, 0, none⟩)] 69)
    rw [e] at e2
    rw [cell_of_row _ _ _ _ _ _ e2]
    rfl
  · simp [World.setCell]

set_option maxRecDepth 100000 in
set_option maxHeartbeats 400000 in
theorem deeper_no {c : Cx} {w : World} {s : St} {rem : List Tok} (h : PS c w s) (hr : c.toks.drop s.i = rem) {lv : Nat} (hlv : s.lv = lv) (h200 : 200 < lv + 1) (hbig : lv ≤ 1000) :
    Calls Tryz.prog 89 #[.pointer (some ⟨c.bp, 0, none⟩)] w fun e w' => Bad c w s 6 (hd rem).pos e w' := by
  have h2 := h.c2
  rw [hlv] at h2
  have hbp := h.bp_lt
  have hfz := h.fz 2
  have ht : (200 : Int) < (lv : Int) + 1 := by omega
  have hmf : ∀ (fn : Fn) (first cap : Array Value) (w : World), (Instr.makeFunc fn first cap).run Tryz.prog w = .ok (.func fn first cap) w := fun _ _ _ _ => rfl
  go_enter Tryz.func89, Tryz.ntmps89
  go_wp2_with fail
  have hb := h.level ((lv : Int) + 1)
  have k1 := hb.1.below ((Below.refl _ _).alloc (Nat.le_refl _) (.cells #[.pointer (some ⟨c.bp, 0, none⟩)] 69))
  have k2 := hb.2.below ((Below.refl _ _).alloc (Nat.le_refl _) (.cells #[.pointer (some ⟨c.bp, 0, none⟩)] 69))
  refine (fail_calls k1 hr 6).mono ?_
  rintro e w2 hbad
  have hbad2 := Bad.trans k2 hbad
  obtain ⟨rfl, _⟩ := hbad
  exact ⟨rfl, hbad2⟩

set_option maxHeartbeats 400000 in
theorem up_calls {c : Cx} {w : World} {s : St} (h : PS c w s) (B : Nat) (hB : w.cell? ⟨B, 0, none⟩ = some (.pointer (some ⟨c.bp, 0, none⟩))) {lv : Nat} (hlv : s.lv = (lv : Int) + 1) (hbig : lv ≤ 1000) :
    Calls Tryz.prog 124 #[.pointer (some ⟨B, 0, none⟩)] w fun e w' =>
      e = .returned (.tuple #[]) ∧ PS c w' (s.at_ lv) ∧ Fr c w s w' (s.at_ lv) := by
  have h2 := h.c2
  rw [hlv] at h2
  have hfz := h.fz 2
  go_enter Tryz.func124, Tryz.ntmps124
  go_wp2
  go_end0
  exact ⟨rfl, h.level lv⟩

set_option maxHeartbeats 400000 in
theorem up_deferred {c : Cx} {w : World} {s : St} (h : PS c w s) (B : Nat) (hB : w.cell? ⟨B, 0, none⟩ = some (.pointer (some ⟨c.bp, 0, none⟩))) {lv : Nat} (hlv : s.lv = (lv : Int) + 1) (hbig : lv ≤ 1000) (u : FrameMode) :
    CallsD Tryz.prog 124 #[.pointer (some ⟨B, 0, none⟩)] u w fun e u' w' => u' = u ∧
      e = .returned (.tuple #[]) ∧ PS c w' (s.at_ lv) ∧ Fr c w s w' (s.at_ lv) := by
  have h2 := h.c2
  rw [hlv] at h2
  have hfz := h.fz 2
  go_enter_d Tryz.func124, Tryz.ntmps124
  go_wp2
  go_end0
  exact ⟨rfl, h.level lv⟩

set_option maxHeartbeats 400000 in
theorem up_any {c : Cx} {w : World} {s : St} (h : PS c w s) (B : Nat) (hB : w.cell? ⟨B, 0, none⟩ = some (.pointer (some ⟨c.bp, 0, none⟩))) (u : FrameMode) :
    CallsD Tryz.prog 124 #[.pointer (some ⟨B, 0, none⟩)] u w fun e u' w' => u' = u ∧
      e = .returned (.tuple #[]) ∧ ∃ lv, PS c w' (s.at_ lv) ∧ Fr c w s w' (s.at_ lv) := by
  have h2 := h.c2
  have hfz := h.fz 2
  go_enter_d Tryz.func124, Tryz.ntmps124
  go_wp2
  go_end0
  exact ⟨rfl, _, h.level _⟩

/-- The post of a function that begins with 'defer p.deeper()()', of which a panic's part does not hang on the frame. -/
def DPost (P : Program) (fn : Func) (R : Ending → World → Prop) (d : Deferred) (E : List PanicEntry → World → Prop) : Exit → Act → World → Prop
  | .panic ch, a, w => (a.defers = [] ∧ R (.panicked ch) w) ∨ (a.defers = [d] ∧ E ch w)
  | e, a, w => bodyPostD P fn R e a w

theorem DPost.imp {P : Program} {fn : Func} {R : Ending → World → Prop} {d : Deferred} {E : List PanicEntry → World → Prop}
    (h : ∀ ch w, E ch w → ∀ tmps, Leaves P fn tmps R [d] (.panicking ch) w) : ∀ e a w, DPost P fn R d E e a w → bodyPostD P fn R e a w := fun e a w hd => by
  cases e with
  | panic ch =>
    rcases hd with ⟨h1, h2⟩ | ⟨h1, h2⟩
    · show Leaves _ _ _ _ a.defers _ _
      rw [h1]
      exact h2
    · show Leaves _ _ _ _ a.defers _ _
      rw [h1]
      exact h _ _ h2 _
  | _ => exact hd

/-- The box of the deferred call's parser is there. -/
def up (B : Nat) : Deferred := { target := .fn (.func 124) #[.pointer (some ⟨B, 0, none⟩)], args := #[] }

/-- What a panic leaves, ahead of the deferred call. -/
def Thrown (c : Cx) (w : World) (s : St) (r : Res (List T)) (B : Nat) (ch : List PanicEntry) (w' : World) : Prop :=
  ∃ en p, r = .err en p ∧ ch = stopV en p ∧ (∃ s', PS c w' s' ∧ Fr c w s w' s') ∧ w'.cell? ⟨B, 0, none⟩ = some (.pointer (some ⟨c.bp, 0, none⟩))

theorem leaves_thrown {c : Cx} {w : World} {s : St} {r : Res (List T)} {B : Nat} {fn : Func} {R : Ending → World → Prop} (hR : ∀ en p e w', r = .err en p → Bad c w s en p e w' → R e w') :
    ∀ ch w', Thrown c w s r B ch w' → ∀ tmps, Leaves Tryz.prog fn tmps R [up B] (.panicking ch) w' := by
  rintro ch w' ⟨en, p, he, rfl, ⟨s', hp, hf⟩, hB⟩ tmps
  refine leaves_cons (f := 124) (args := #[.pointer (some ⟨B, 0, none⟩)]) (by simp) (by simp [go_sem]) ?_
  refine (up_any hp B hB _).mono ?_
  rintro e u' w'' ⟨rfl, rfl, lv, hp2, hf2⟩
  exact hR en p _ _ he ⟨rfl, _, hp2, hf.trans hf2⟩

/-- Behind a part that went well, and the deferred call: the level is as it was. -/
theorem Mid.down {c : Cx} {w w1 wi wj : World} {s si : St} {R : List Tok} {TS : List T} {KS : List Nat} {d : Nat} {lv : Int} (hf : Fr c w s w1 (s.at_ lv)) (h : Mid c w1 (s.at_ lv) wi si R TS KS d)
    (hp : PS c wj (si.at_ s.lv)) (hfj : Fr c wi si wj (si.at_ s.lv)) : Mid c w s wj (si.at_ s.lv) R TS KS d :=
  ⟨hp, (hf.trans h.fr).trans hfj, ⟨rfl, h.af.rem, h.af.pre, h.af.size, h.af.used⟩, h.rp⟩

end Go.Proofs.YtgdamcmfdhhheaaGreatDoor

/- The contracts of the parser's parts that call each other. -/
namespace Go.Proofs.YtgdamcmfdhhheaaGreatDoor
open Go.RowKit Bf

def CallN (f : FuncId) (args : List Value) (g : Nat → G) (n : Nat) : Prop :=
  ∀ (c : Cx) (w : World) (s : St) (R : List Tok) (lv : Nat), PS c w s → c.toks.drop s.i = R → s.lv = (lv : Int) → lv ≤ 200 → pRun n (g lv) R ≠ .out →
    Calls Tryz.prog f (.pointer (some ⟨c.bp, 0, none⟩) :: args).toArray w (PostN c w s (pRun n (g lv) R))
def CallL (f : FuncId) (args : List Value) (g : Nat → G) (n : Nat) : Prop :=
  ∀ (c : Cx) (w : World) (s : St) (R : List Tok) (lv : Nat), PS c w s → c.toks.drop s.i = R → s.lv = (lv : Int) → lv ≤ 200 → pRun n (g lv) R ≠ .out →
    Calls Tryz.prog f (.pointer (some ⟨c.bp, 0, none⟩) :: args).toArray w (PostL c w s (pRun n (g lv) R))

def CallB (f : FuncId) (args : List Value) (g : Nat → G) (n : Nat) : Prop :=
  ∀ (c : Cx) (w : World) (s : St) (R : List Tok) (lv : Nat), PS c w s → c.toks.drop s.i = R → s.lv = (lv : Int) → lv ≤ 200 → pRun n (g lv) R ≠ .out →
    Calls Tryz.prog f (.pointer (some ⟨c.bp, 0, none⟩) :: args).toArray w (PostB c w s (pRun n (g lv) R))

/-- All parts, at n of fuel. -/
structure All (n : Nat) : Prop where
  stmt : CallN 56 [] .stmt n
  block : CallB 91 [] .block n
  declared : ∀ (kind pos : Nat) (value : Bool), CallN 93 [.int .u8 kind, .int .i64 pos, .bool value] (fun lv => .declared lv kind pos value) n
  rest : CallL 96 [] .rest n
  tested : CallL 97 [] .tested n
  body : CallN 98 [] .body n
  loop : ∀ (pos : Nat), CallN 99 [.int .i64 pos] (fun lv => .loop lv pos) n
  jump : ∀ (kind pos : Nat) (value : Bool), CallN 100 [.int .u8 kind, .int .i64 pos, .bool value] (fun lv => .jump lv kind pos value) n
  try_ : ∀ (pos : Nat), CallN 101 [.int .i64 pos] (fun lv => .try_ lv pos) n
  assign : CallN 102 [] .assign n
  cond : CallN 127 [] .cond n
  binary : ∀ (least : Nat), least ≤ 20 → CallN 139 [.int .i64 least] (fun lv => .binary lv least) n
  unary : CallN 149 [] .unary n
  postfix_ : ∀ (calls : Bool), CallN 152 [.bool calls] (fun lv => .postfix_ lv calls) n
  primary : CallN 153 [] .primary n
  pair : CallN 155 [] .pair n
  key : CallN 156 [] .key n

theorem hidden {p : Prop} (h : p) : Hid p := h

theorem beqK (k : Nat) (n : Nat) : (((k : Nat) : Int) == (n : Int)) = (k == n) := by
  rw [Bool.eq_iff_iff]; simp; omega

/-- A node is made of all that stands. -/
theorem node_mid {c : Cx} {w wi : World} {s si : St} {R : List Tok} {TS : List T} {KS : List Nat} {d : Nat} {kv : Value} (m : Mid c w s wi si R TS KS (d + 1)) (l : Lst c w wi si kv KS) (hroom : s.ns.length ≤ s.i + 1)
    (kind pos : Nat) (text : List UInt8) :
    Calls Tryz.prog 57 #[.pointer (some ⟨c.bp, 0, none⟩), .int .u8 kind, .int .i64 pos, .string ⟨text.toArray⟩, kv] wi fun e w' =>
      ∃ (s' : St) (k : Nat), e = .returned (.int .i64 k) ∧ Mid c w s w' s' R [.node kind pos text 0 TS] [k] d ∧ Kept c wi si kv w' s' := by
  refine (node_calls m.ps kind pos text KS kv l.row (fun k e => ⟨(l.new k e).1, Nat.le_of_lt (l.new k e).2.2⟩) (m.room hroom) m.kids_le).mono ?_
  rintro e w1 ⟨rfl, nv, hp⟩
  exact ⟨_, _, rfl, m.node hp l, hp.kept⟩

/-- A number. -/
theorem number_mid {c : Cx} {w wi : World} {s si : St} {R : List Tok} {d : Nat} (m : Mid c w s wi si R [] [] (d + 1)) (hroom : s.ns.length ≤ s.i + 1) (kind pos : Nat) (num : Nat) :
    Calls Tryz.prog 104 #[.pointer (some ⟨c.bp, 0, none⟩), .agg #[.int .u8 kind, .int .i64 pos, .string ⟨#[]⟩, .float .f64 num, .slice none 0 0]] wi fun e w' =>
      ∃ (s' : St) (k : Nat), e = .returned (.int .i64 k) ∧ Mid c w s w' s' R [.node kind pos [] num []] [k] d := by
  have l : Lst c w wi si (.slice none 0 0) [] := Lst.nil
  refine (add_calls m.ps ⟨kind, pos, [], num, []⟩ (.slice none 0 0) l.row (by simp [Value.ownBlock]) (m.room hroom) (by simp)).mono ?_
  rintro e w1 ⟨rfl, nv, hp⟩
  exact ⟨_, _, rfl, m.node hp l⟩

theorem Tryz.infoInt : (Tryz.prog.info? 3).map (fun i => (i.zero, i.size, i.bytes)) = some (some (.int .i64 0), 1, 8) := by kernel_rfl

end Go.Proofs.YtgdamcmfdhhheaaGreatDoor

/- The parser's block, walked. -/
namespace Go.Proofs.YtgdamcmfdhhheaaGreatDoor
open Go.RowKit Bf

/-- What is left of a loop over statements. -/
def Stmts (n lv : Nat) (top : Bool) (R0 : List Tok) (m : Nat) (TS : List T) (R : List Tok) : Prop :=
  m ≤ n ∧ pRun n (.stmts lv top) R0 = (pRun m (.stmts lv top) R).bind fun ks r => .ok (TS ++ ks) r

theorem Stmts.start (n lv : Nat) (top : Bool) (R : List Tok) : Stmts n lv top R n [] R := by
  refine ⟨Nat.le_refl _, ?_⟩
  cases pRun n (.stmts lv top) R <;> rfl

theorem Stmts.pos {n lv : Nat} {top : Bool} {R0 R : List Tok} {m : Nat} {TS : List T} (h : Stmts n lv top R0 m TS R) (hne : pRun n (.stmts lv top) R0 ≠ .out) : ∃ m', m = m' + 1 := by
  cases m with
  | zero => exact absurd h.2 hne
  | succ m => exact ⟨m, rfl⟩

theorem Stmts.stop {n lv : Nat} {top : Bool} {R0 R : List Tok} {m : Nat} {TS : List T} (h : Stmts n lv top R0 (m + 1) TS R)
    (hs : (if top then (hd R).kind == 0 else isTok (hd R) [125]) = true) : pRun n (.stmts lv top) R0 = .ok TS R := by
  rw [h.2]
  simp only [pRun, pStep, stmtsB, hs, if_true, Res.bind, List.append_nil]

theorem Stmts.go {n lv : Nat} {top : Bool} {R0 R : List Tok} {m : Nat} {TS : List T} (h : Stmts n lv top R0 (m + 1) TS R) (hne : pRun n (.stmts lv top) R0 ≠ .out)
    (hs : (if top then (hd R).kind == 0 else isTok (hd R) [125]) = false) :
    pRun n (.stmt lv) R ≠ .out ∧ (∀ e p, pRun n (.stmt lv) R = .err e p → pRun n (.stmts lv top) R0 = .err e p) ∧
      (∀ ts R', pRun n (.stmt lv) R = .ok ts R' → Stmts n lv top R0 m (TS ++ ts) R') := by
  have h2 := h.2
  simp only [pRun, pStep, stmtsB, hs, Bool.false_eq_true, if_false] at h2
  have hm : m ≤ n := Nat.le_of_succ_le h.1
  cases hc : pRun m (.stmt lv) R with
  | out => rw [hc] at h2; exact absurd h2 hne
  | err e p =>
    have := pRun_mono hm (.stmt lv) R (by rw [hc]; simp)
    rw [this, hc]
    rw [hc] at h2
    refine ⟨by simp, ?_, by simp⟩
    rintro e' p' ⟨⟩
    exact h2
  | ok ts R' =>
    have := pRun_mono hm (.stmt lv) R (by rw [hc]; simp)
    rw [this, hc]
    rw [hc] at h2
    refine ⟨by simp, by simp, ?_⟩
    rintro ts' R'' ⟨⟩
    refine ⟨hm, h2.trans ?_⟩
    simp only [Res.bind]
    cases pRun m (.stmts lv top) R' <;> simp

set_option maxRecDepth 100000 in
set_option maxHeartbeats 1000000 in
theorem block_step (n : Nat) (ih : All n) : CallB 91 [] .block (n + 1) := by
  intro c w s R lv h hr hlv hle hne
  change Calls _ _ #[.pointer (some ⟨c.bp, 0, none⟩)] w (PostB c w s (blockB (pRun n) lv R))
  have HN : Hid (blockB (pRun n) lv R ≠ .out) := hne
  have HL : Hid (s.lv = (lv : Int)) := hlv
  clear hne hlv
  obtain ⟨i0, hi0, hz0, hz1, hz2⟩ := info_parts Tryz.infoInt
  have m0 := Mid.start h hr
  clear hr
  have h0 := h.c0
  have h1 := h.c1
  have hbp := h.bp_lt
  have hbl := h.bl_lt
  have hi := h.i
  have hlen := h.len
  have t1 := h.t1 m0.rem
  go_enter Tryz.func91, Tryz.ntmps91
  go_wp2
  go_region
  go_wp2_with fail
  have m1 := m0.below ((Below.refl _ _).drew)
  clear h0 h1 hbp hbl hi hlen t1
  by_cases hx : isTok (hd R) [123] = true
  case neg =>
    refine (need_no m1.ps m1.rem [123] (by simpa using hx)).mono ?_
    rintro e w2 hbad
    have hb2 := Bad.trans m1.fr hbad
    obtain ⟨rfl, _⟩ := hbad
    exact ⟨rfl, PostB.bad hb2 (by simp [blockB, need, hx, fail, Res.bind])⟩
  case pos =>
    refine (need_yes m1.ps m1.rem [123] hx).mono ?_
    rintro e w2 ⟨rfl, hp, hf⟩
    have m2 := m1.next hp hf
    clear hp hf m0 m1
    have HS : Hid (pRun n (.stmts lv false) R.tail ≠ .out) := fun e => HN.out (by simp [blockB, need, hx, Res.bind, e])
    go_wp2_with fail
    go_loopg [4] n (fun m u wr => ∃ kv si TS KS Ri d, kv = u ∧ Mid c w s wr si Ri TS KS (d + 1) ∧ Lst c w wr si kv KS ∧ Stmts n lv false R.tail m TS Ri)
    case atStart => exact ⟨_, _, _, _, _, _, rfl, m2, Lst.nil, Stmts.start n lv false R.tail⟩
    case round =>
      obtain ⟨kv, si, TS, KS, Ri, d, rfl, m3, l3, q3⟩ := hrel
      clear m2
      obtain ⟨m, rfl⟩ := q3.pos HS.out
      go_wp2_with fail
      refine (is_calls m3.ps m3.rem [125]).mono ?_
      rintro e w3 ⟨rfl, hb⟩
      have m4 := m3.below hb
      have l4 := l3.below hb
      clear hb m3 l3
      by_cases hend : isTok (hd Ri) [125] = true
      case pos =>
        have hq := hidden (q3.stop (by simpa using hend))
        go_wp2_with fail
        refine (need_yes m4.ps m4.rem [125] hend).mono ?_
        rintro e w4 ⟨rfl, hp, hf⟩
        have m5 := m4.next hp hf
        have l5 := l4.fr hf
        clear hp hf m4 l4
        go_wp2_with fail
        refine (node_mid m5 l5 h.room 2 (hd R).pos []).mono ?_
        rintro e w5 ⟨s', k, rfl, m6, _⟩
        go_wp2_with fail
        go_ret
        exact PostB.fin m6 (by simp [blockB, need, hx, hend, Res.bind, hq.out, ok1])
      case neg =>
        have hend' : isTok (hd Ri) [125] = false := by simpa using hend
        obtain ⟨hne, herr, hok⟩ := q3.go HS.out (by simpa using hend')
        go_wp2_with fail
        refine (ih.stmt c w3 si Ri lv m4.ps m4.rem (m4.lv HL.out) hle hne).mono ?_
        rintro e w4 hpost
        cases hc : pRun n (.stmt lv) Ri with
        | out => exact absurd hc hne
        | err en p =>
          rw [hc] at hpost
          have hb2 := Bad.trans m4.fr hpost
          obtain ⟨rfl, _⟩ := hpost
          exact ⟨rfl, PostB.bad hb2 (by simp [blockB, need, hx, Res.bind, herr _ _ hc])⟩
        | ok ts R' =>
          rw [hc] at hpost
          obtain ⟨sj, k, t, rfl, rfl, m5⟩ := hpost
          have l5 := l4.fr m5.fr
          have m6 := m4.call m5
          have hst := hok _ _ hc
          have hbase := m6.ps.bp_lt
          have hkl : KS.length + 1 ≤ 16385 := by have := m6.kids_le; simpa using this
          have hrow := l5.row
          clear m4 l4 m5 hc herr hok hne
          go_wp2_with (at_builtin; refine wpList_append_lies _ rfl _ _ 30 rfl (c.bp + 1) 3 i0 _ 1 8 Tryz.underlying30 hi0 hz0 hz1 hz2 rfl (by decide) kv KS.length (ints KS) rfl (World.ownsRow.alloc hrow _) ⟨w4.heap.size, 0, none⟩ 1 1 [.int .i64 k] rfl rfl ?c1 ?c2 ?c3 ?c4 ?c5 ?c6 (w4.heap.size + 1) ?c7 ?_)
          case c1 => exact World.news_of_block (cs := #[.int .i64 k]) (t := 3) (fr := (0, 0)) (heap_alloc_new w4 _)
          case c2 => simp [Value.oneCell']
          case c3 => decide
          case c4 => unfold maxLen; omega
          case c5 => omega
          case c6 => simp; omega
          case c7 => simp
          intro g cap w5 hown hgrow hat hlt
          obtain ⟨m7, l7⟩ := m6.append l5 (World.grownBy_alloc w4 _ none) hgrow hown (hat.imp id (by omega))
          clear hown hgrow hat hlt hrow m6 l5 hbase hkl
          go_wp2_with fail
          go_roundg m
          case measure => omega
          case rel => exact ⟨_, _, _, _, _, _, rfl, m7, l7, hst⟩

end Go.Proofs.YtgdamcmfdhhheaaGreatDoor

/- Parts of the parser, walked: declarations, tests, jumps. -/
namespace Go.Proofs.YtgdamcmfdhhheaaGreatDoor
open Go.RowKit Bf

set_option maxRecDepth 100000 in
set_option maxHeartbeats 1000000 in
theorem tested_step (n : Nat) (ih : All n) : CallL 97 [] .tested (n + 1) := by
  intro c w s R lv h hr hlv hle hne
  change Calls _ _ #[.pointer (some ⟨c.bp, 0, none⟩)] w (PostL c w s (testedB (pRun n) lv R))
  have HN : Hid (testedB (pRun n) lv R ≠ .out) := hne
  have HL : Hid (s.lv = (lv : Int)) := hlv
  clear hne hlv
  have m0 := Mid.start h hr
  clear hr
  go_enter Tryz.func97, Tryz.ntmps97
  go_wp2_with fail
  by_cases hx1 : isTok (hd R) [40] = true
  rotate_left
  · refine (need_no m0.ps m0.rem [40] (by simpa using hx1)).mono ?_
    rintro e wz hbad
    have hb2 := Bad.trans m0.fr hbad
    obtain ⟨rfl, _⟩ := hbad
    exact ⟨rfl, PostL.bad hb2 (by simp [testedB, need, name, fail, Res.bind, ok1, hx1])⟩
  refine (need_yes m0.ps m0.rem [40] hx1).mono ?_
  rintro e w2 ⟨rfl, hp, hf⟩
  have m3 := m0.next hp hf
  clear hp hf m0
  go_wp2_with fail
  have HChc4 : Hid (pRun n (.assign lv) R.tail ≠ .out) := fun e => HN.out (by simp [testedB, need, name, fail, Res.bind, ok1, hx1, e])
  refine (ih.assign _ _ _ _ _ m3.ps m3.rem (m3.lv HL.out) hle HChc4.out).mono ?_
  rintro e w5 hpost
  rcases hc4 : pRun n (.assign lv) R.tail with ⟨tshc4, Rhc4⟩ | ⟨en, p⟩ | _
  rotate_left
  · rw [hc4] at hpost
    have hb2 := Bad.trans m3.fr hpost
    obtain ⟨rfl, _⟩ := hpost
    exact ⟨rfl, PostL.bad hb2 (by simp [testedB, need, name, fail, Res.bind, ok1, hx1, hc4])⟩
  · exact absurd hc4 HChc4.out
  rw [hc4] at hpost
  obtain ⟨shc4, khc4, thc4, rfl, rfl, mm⟩ := hpost
  have m6 := m3.call mm
  have Hhc4 := hidden hc4
  clear mm m3 hc4 HChc4
  go_wp2_with fail
  by_cases hx7 : isTok (hd Rhc4) [41] = true
  rotate_left
  · refine (need_no m6.ps m6.rem [41] (by simpa using hx7)).mono ?_
    rintro e wz hbad
    have hb2 := Bad.trans m6.fr hbad
    obtain ⟨rfl, _⟩ := hbad
    exact ⟨rfl, PostL.bad hb2 (by simp [testedB, need, name, fail, Res.bind, ok1, hx1, Hhc4.out, hx7])⟩
  refine (need_yes m6.ps m6.rem [41] hx7).mono ?_
  rintro e w8 ⟨rfl, hp, hf⟩
  have m9 := m6.next hp hf
  clear hp hf m6
  go_wp2_with fail
  have HChc10 : Hid (pRun n (.body lv) Rhc4.tail ≠ .out) := fun e => HN.out (by simp [testedB, need, name, fail, Res.bind, ok1, hx1, Hhc4.out, hx7, e])
  refine (ih.body _ _ _ _ _ m9.ps m9.rem (m9.lv HL.out) hle HChc10.out).mono ?_
  rintro e w11 hpost
  rcases hc10 : pRun n (.body lv) Rhc4.tail with ⟨tshc10, Rhc10⟩ | ⟨en, p⟩ | _
  rotate_left
  · rw [hc10] at hpost
    have hb2 := Bad.trans m9.fr hpost
    obtain ⟨rfl, _⟩ := hpost
    exact ⟨rfl, PostL.bad hb2 (by simp [testedB, need, name, fail, Res.bind, ok1, hx1, Hhc4.out, hx7, hc10])⟩
  · exact absurd hc10 HChc10.out
  rw [hc10] at hpost
  obtain ⟨shc10, khc10, thc10, rfl, rfl, mm⟩ := hpost
  have m12 := m9.call mm
  have Hhc10 := hidden hc10
  clear mm m9 hc10 HChc10
  go_wp2_with fail
  have l13 : Lst c w (w11.alloc (.cells #[.int .i64 khc4, .int .i64 khc10] 3)) _ (.slice (some ⟨w11.heap.size, 0, none⟩) 2 2) [khc4, khc10] := Lst.made m12 [khc4, khc10] (by simp)
  have m14 := m12.below ((Below.refl _ _).alloc (Nat.le_refl _) (.cells #[.int .i64 khc4, .int .i64 khc10] 3))
  clear m12
  generalize w11.alloc (.cells #[.int .i64 khc4, .int .i64 khc10] 3) = w15 at m14 l13 ⊢
  go_ret
  exact PostL.fin m14 l13 (by simp [testedB, need, name, fail, Res.bind, ok1, hx1, Hhc4.out, hx7, Hhc10.out])

set_option maxRecDepth 100000 in
set_option maxHeartbeats 1000000 in
theorem body_step (n : Nat) (ih : All n) : CallN 98 [] .body (n + 1) := by
  intro c w s R lv h hr hlv hle hne
  change Calls _ _ #[.pointer (some ⟨c.bp, 0, none⟩)] w (PostN c w s (bodyB (pRun n) lv R))
  have HN : Hid (bodyB (pRun n) lv R ≠ .out) := hne
  have HL : Hid (s.lv = (lv : Int)) := hlv
  clear hne hlv
  have m0 := Mid.start h hr
  clear hr
  go_enter Tryz.func98, Tryz.ntmps98
  go_wp2_with fail
  refine (is_calls m0.ps m0.rem [108, 101, 116]).mono ?_
  rintro e w1 ⟨rfl, hb⟩
  have m1 := m0.below hb
  clear m0
  clear hb
  by_cases hy0 : isTok (hd R) [108, 101, 116] = true
  · go_wp2_with fail
    have hl := m1.lv HL.out
    by_cases h2 : 200 < lv + 1
    · refine (deeper_no m1.ps m1.rem hl h2 (by omega)).mono ?_
      rintro e wz hbad
      have hb2 := Bad.trans m1.fr hbad
      obtain ⟨rfl, _⟩ := hbad
      exact ⟨rfl, PostN.bad hb2 (by simp [bodyB, need, name, fail, Res.bind, ok1, hy0, h2])⟩
    · refine (deeper_ok m1.ps hl h2).mono ?_
      rintro e wz ⟨rfl, hp, hf, _, _⟩
      go_wp2_with fail
      refine (fail_calls hp m1.rem 5).mono ?_
      rintro e wy hbad
      have hb2 := Bad.trans (m1.fr.trans hf) hbad
      obtain ⟨rfl, _⟩ := hbad
      exact ⟨rfl, PostN.bad hb2 (by simp [bodyB, need, name, fail, Res.bind, ok1, hy0, h2])⟩
  go_wp2_with fail
  refine (is_calls m1.ps m1.rem [99, 111, 110, 115, 116]).mono ?_
  rintro e w2 ⟨rfl, hb⟩
  have m2 := m1.below hb
  clear m1
  clear hb
  by_cases hy1 : isTok (hd R) [99, 111, 110, 115, 116] = true
  · go_wp2_with fail
    have hl := m2.lv HL.out
    by_cases h2 : 200 < lv + 1
    · refine (deeper_no m2.ps m2.rem hl h2 (by omega)).mono ?_
      rintro e wz hbad
      have hb2 := Bad.trans m2.fr hbad
      obtain ⟨rfl, _⟩ := hbad
      exact ⟨rfl, PostN.bad hb2 (by simp [bodyB, need, name, fail, Res.bind, ok1, hy0, hy1, h2])⟩
    · refine (deeper_ok m2.ps hl h2).mono ?_
      rintro e wz ⟨rfl, hp, hf, _, _⟩
      go_wp2_with fail
      refine (fail_calls hp m2.rem 5).mono ?_
      rintro e wy hbad
      have hb2 := Bad.trans (m2.fr.trans hf) hbad
      obtain ⟨rfl, _⟩ := hbad
      exact ⟨rfl, PostN.bad hb2 (by simp [bodyB, need, name, fail, Res.bind, ok1, hy0, hy1, h2])⟩
  go_wp2_with fail
  refine (is_calls m2.ps m2.rem [102, 117, 110, 99, 116, 105, 111, 110]).mono ?_
  rintro e w3 ⟨rfl, hb⟩
  have m3 := m2.below hb
  clear m2
  clear hb
  by_cases hy2 : isTok (hd R) [102, 117, 110, 99, 116, 105, 111, 110] = true
  · go_wp2_with fail
    have hl := m3.lv HL.out
    by_cases h2 : 200 < lv + 1
    · refine (deeper_no m3.ps m3.rem hl h2 (by omega)).mono ?_
      rintro e wz hbad
      have hb2 := Bad.trans m3.fr hbad
      obtain ⟨rfl, _⟩ := hbad
      exact ⟨rfl, PostN.bad hb2 (by simp [bodyB, need, name, fail, Res.bind, ok1, hy0, hy1, hy2, h2])⟩
    · refine (deeper_ok m3.ps hl h2).mono ?_
      rintro e wz ⟨rfl, hp, hf, _, _⟩
      go_wp2_with fail
      refine (fail_calls hp m3.rem 5).mono ?_
      rintro e wy hbad
      have hb2 := Bad.trans (m3.fr.trans hf) hbad
      obtain ⟨rfl, _⟩ := hbad
      exact ⟨rfl, PostN.bad hb2 (by simp [bodyB, need, name, fail, Res.bind, ok1, hy0, hy1, hy2, h2])⟩
  go_wp2_with fail
  have HChc4 : Hid (pRun n (.stmt lv) R ≠ .out) := fun e => HN.out (by simp [bodyB, need, name, fail, Res.bind, ok1, hy0, hy1, hy2, e])
  refine (ih.stmt _ _ _ _ _ m3.ps m3.rem (m3.lv HL.out) hle HChc4.out).mono ?_
  rintro e w5 hpost
  rcases hc4 : pRun n (.stmt lv) R with ⟨tshc4, Rhc4⟩ | ⟨en, p⟩ | _
  rotate_left
  · rw [hc4] at hpost
    have hb2 := Bad.trans m3.fr hpost
    obtain ⟨rfl, _⟩ := hpost
    exact ⟨rfl, PostN.bad hb2 (by simp [bodyB, need, name, fail, Res.bind, ok1, hy0, hy1, hy2, hc4])⟩
  · exact absurd hc4 HChc4.out
  rw [hc4] at hpost
  obtain ⟨shc4, khc4, thc4, rfl, rfl, mm⟩ := hpost
  have m6 := m3.call mm
  have Hhc4 := hidden hc4
  clear mm m3 hc4 HChc4
  go_wp2_with fail
  go_ret
  exact PostN.fin m6 (by simp [bodyB, need, name, fail, Res.bind, ok1, hy0, hy1, hy2, Hhc4.out])

set_option maxRecDepth 100000 in
set_option maxHeartbeats 1000000 in
theorem jump_step (n : Nat) (ih : All n) (kind pos : Nat) (value : Bool) : CallN 100 [.int .u8 kind, .int .i64 pos, .bool value] (fun lv => .jump lv kind pos value) (n + 1) := by
  intro c w s R lv h hr hlv hle hne
  change Calls _ _ #[.pointer (some ⟨c.bp, 0, none⟩), .int .u8 kind, .int .i64 pos, .bool value] w (PostN c w s (jumpB (pRun n) lv kind pos value R))
  have HN : Hid (jumpB (pRun n) lv kind pos value R ≠ .out) := hne
  have HL : Hid (s.lv = (lv : Int)) := hlv
  clear hne hlv
  have m0 := Mid.start h hr
  clear hr
  obtain ⟨i0, hi0, hz0, hz1, hz2⟩ := info_parts Tryz.infoInt
  cases value
  · go_enter Tryz.func100, Tryz.ntmps100
    go_wp2_with fail
    by_cases hx1 : isTok (hd R) [59] = true
    rotate_left
    · refine (need_no m0.ps m0.rem [59] (by simpa using hx1)).mono ?_
      rintro e wz hbad
      have hb2 := Bad.trans m0.fr hbad
      obtain ⟨rfl, _⟩ := hbad
      exact ⟨rfl, PostN.bad hb2 (by simp [jumpB, need, name, fail, Res.bind, ok1, hx1])⟩
    refine (need_yes m0.ps m0.rem [59] hx1).mono ?_
    rintro e w2 ⟨rfl, hp, hf⟩
    have m3 := m0.next hp hf
    clear hp hf m0
    go_wp2_with fail
    refine (node_mid m3 Lst.nil h.room kind pos []).mono ?_
    rintro e w4 ⟨s6, k5, rfl, m7, hp⟩
    clear hp m3
    go_wp2_with fail
    go_ret
    exact PostN.fin m7 (by simp [jumpB, need, name, fail, Res.bind, ok1, hx1])
  · go_enter Tryz.func100, Tryz.ntmps100
    go_wp2_with fail
    have HChc8 : Hid (pRun n (.assign lv) R ≠ .out) := fun e => HN.out (by simp [jumpB, need, name, fail, Res.bind, ok1, e])
    refine (ih.assign _ _ _ _ _ m0.ps m0.rem (m0.lv HL.out) hle HChc8.out).mono ?_
    rintro e w9 hpost
    rcases hc8 : pRun n (.assign lv) R with ⟨tshc8, Rhc8⟩ | ⟨en, p⟩ | _
    rotate_left
    · rw [hc8] at hpost
      have hb2 := Bad.trans m0.fr hpost
      obtain ⟨rfl, _⟩ := hpost
      exact ⟨rfl, PostN.bad hb2 (by simp [jumpB, need, name, fail, Res.bind, ok1, hc8])⟩
    · exact absurd hc8 HChc8.out
    rw [hc8] at hpost
    obtain ⟨shc8, khc8, thc8, rfl, rfl, mm⟩ := hpost
    have m10 := m0.call mm
    have Hhc8 := hidden hc8
    clear mm m0 hc8 HChc8
    have hbase := m10.ps.bp_lt
    have hkl := m10.kids_le
    have l0 : Lst c w w9 (shc8) (.slice none 0 0) ([] : List Nat) := Lst.nil
    have hrow := l0.row
    go_wp2_with (at_builtin; refine wpList_append_lies _ rfl _ _ 30 rfl (c.bp + 1) 3 i0 _ 1 8 Tryz.underlying30 hi0 hz0 hz1 hz2 rfl (by decide) (.slice none 0 0) (([] : List Nat)).length (ints ([] : List Nat)) rfl (World.ownsRow.alloc hrow _) ⟨w9.heap.size, 0, none⟩ 1 1 [.int .i64 khc8] rfl rfl ?c1 ?c2 ?c3 ?c4 ?c5 ?c6 (w9.heap.size + 1) ?c7 ?_)
    case c1 => exact World.news_of_block (cs := #[.int .i64 khc8]) (t := 3) (fr := (0, 0)) (heap_alloc_new w9 _)
    case c2 => simp [Value.oneCell']
    case c3 => decide
    case c4 => unfold maxLen; first | omega | (simp at hkl ⊢; done) | (simp at hkl ⊢; omega)
    case c5 => first | omega | (simp at hkl ⊢; done) | (simp at hkl ⊢; omega)
    case c6 => simp; omega
    case c7 => simp
    intro g11 cap12 w13 hown hgrow hat hlt
    have hgg16 := grownBy_trans (World.grownBy_alloc w9 _ none) hgrow
    obtain ⟨m14, l15⟩ := m10.append l0 (World.grownBy_alloc w9 _ none) hgrow hown (hat.imp id (by omega))
    clear hown hgrow hat hlt hrow l0 hbase hkl m10
    go_wp2_with fail
    by_cases hx17 : isTok (hd Rhc8) [59] = true
    rotate_left
    · refine (need_no m14.ps m14.rem [59] (by simpa using hx17)).mono ?_
      rintro e wz hbad
      have hb2 := Bad.trans m14.fr hbad
      obtain ⟨rfl, _⟩ := hbad
      exact ⟨rfl, PostN.bad hb2 (by simp [jumpB, need, name, fail, Res.bind, ok1, Hhc8.out, hx17])⟩
    refine (need_yes m14.ps m14.rem [59] hx17).mono ?_
    rintro e w18 ⟨rfl, hp, hf⟩
    have m19 := m14.next hp hf
    have l15' := l15.fr hf
    have l20 := l15'
    clear l15' l15
    clear hp hf m14
    go_wp2_with fail
    refine (node_mid m19 l20 h.room kind pos []).mono ?_
    rintro e w21 ⟨s23, k22, rfl, m24, hp⟩
    clear hp m19
    go_wp2_with fail
    go_ret
    exact PostN.fin m24 (by simp [jumpB, need, name, fail, Res.bind, ok1, Hhc8.out, hx17])

set_option maxRecDepth 100000 in
set_option maxHeartbeats 1000000 in
theorem declared_step (n : Nat) (ih : All n) (kind pos : Nat) (value : Bool) : CallN 93 [.int .u8 kind, .int .i64 pos, .bool value] (fun lv => .declared lv kind pos value) (n + 1) := by
  intro c w s R lv h hr hlv hle hne
  change Calls _ _ #[.pointer (some ⟨c.bp, 0, none⟩), .int .u8 kind, .int .i64 pos, .bool value] w (PostN c w s (declaredB (pRun n) lv kind pos value R))
  have HN : Hid (declaredB (pRun n) lv kind pos value R ≠ .out) := hne
  have HL : Hid (s.lv = (lv : Int)) := hlv
  clear hne hlv
  have m0 := Mid.start h hr
  clear hr
  obtain ⟨i0, hi0, hz0, hz1, hz2⟩ := info_parts Tryz.infoInt
  cases value
  · go_enter Tryz.func93, Tryz.ntmps93
    go_wp2_with fail
    by_cases hx1 : ((hd R).kind == 1) = true
    rotate_left
    · refine (name_no m0.ps m0.rem (by simpa using hx1)).mono ?_
      rintro e wz hbad
      have hb2 := Bad.trans m0.fr hbad
      obtain ⟨rfl, _⟩ := hbad
      exact ⟨rfl, PostN.bad hb2 (by simp [declaredB, need, name, fail, Res.bind, ok1, hx1])⟩
    refine (name_yes m0.ps m0.rem hx1).mono ?_
    rintro e w2 ⟨rfl, hp, hf⟩
    have m3 := m0.next hp hf
    clear hp hf m0
    go_wp2_with fail
    by_cases hx4 : isTok (hd R.tail) [59] = true
    rotate_left
    · refine (need_no m3.ps m3.rem [59] (by simpa using hx4)).mono ?_
      rintro e wz hbad
      have hb2 := Bad.trans m3.fr hbad
      obtain ⟨rfl, _⟩ := hbad
      exact ⟨rfl, PostN.bad hb2 (by simp [declaredB, need, name, fail, Res.bind, ok1, hx1, hx4])⟩
    refine (need_yes m3.ps m3.rem [59] hx4).mono ?_
    rintro e w5 ⟨rfl, hp, hf⟩
    have m6 := m3.next hp hf
    clear hp hf m3
    go_wp2_with fail
    refine (node_mid m6 Lst.nil h.room kind pos (hd R).text).mono ?_
    rintro e w7 ⟨s9, k8, rfl, m10, hp⟩
    clear hp m6
    go_wp2_with fail
    go_ret
    exact PostN.fin m10 (by simp [declaredB, need, name, fail, Res.bind, ok1, hx1, hx4])
  · go_enter Tryz.func93, Tryz.ntmps93
    go_wp2_with fail
    by_cases hx11 : ((hd R).kind == 1) = true
    rotate_left
    · refine (name_no m0.ps m0.rem (by simpa using hx11)).mono ?_
      rintro e wz hbad
      have hb2 := Bad.trans m0.fr hbad
      obtain ⟨rfl, _⟩ := hbad
      exact ⟨rfl, PostN.bad hb2 (by simp [declaredB, need, name, fail, Res.bind, ok1, hx11])⟩
    refine (name_yes m0.ps m0.rem hx11).mono ?_
    rintro e w12 ⟨rfl, hp, hf⟩
    have m13 := m0.next hp hf
    clear hp hf m0
    go_wp2_with fail
    by_cases hx14 : isTok (hd R.tail) [61] = true
    rotate_left
    · refine (need_no m13.ps m13.rem [61] (by simpa using hx14)).mono ?_
      rintro e wz hbad
      have hb2 := Bad.trans m13.fr hbad
      obtain ⟨rfl, _⟩ := hbad
      exact ⟨rfl, PostN.bad hb2 (by simp [declaredB, need, name, fail, Res.bind, ok1, hx11, hx14])⟩
    refine (need_yes m13.ps m13.rem [61] hx14).mono ?_
    rintro e w15 ⟨rfl, hp, hf⟩
    have m16 := m13.next hp hf
    clear hp hf m13
    go_wp2_with fail
    have HChc17 : Hid (pRun n (.assign lv) R.tail.tail ≠ .out) := fun e => HN.out (by simp [declaredB, need, name, fail, Res.bind, ok1, hx11, hx14, e])
    refine (ih.assign _ _ _ _ _ m16.ps m16.rem (m16.lv HL.out) hle HChc17.out).mono ?_
    rintro e w18 hpost
    rcases hc17 : pRun n (.assign lv) R.tail.tail with ⟨tshc17, Rhc17⟩ | ⟨en, p⟩ | _
    rotate_left
    · rw [hc17] at hpost
      have hb2 := Bad.trans m16.fr hpost
      obtain ⟨rfl, _⟩ := hpost
      exact ⟨rfl, PostN.bad hb2 (by simp [declaredB, need, name, fail, Res.bind, ok1, hx11, hx14, hc17])⟩
    · exact absurd hc17 HChc17.out
    rw [hc17] at hpost
    obtain ⟨shc17, khc17, thc17, rfl, rfl, mm⟩ := hpost
    have m19 := m16.call mm
    have Hhc17 := hidden hc17
    clear mm m16 hc17 HChc17
    have hbase := m19.ps.bp_lt
    have hkl := m19.kids_le
    have l0 : Lst c w w18 (shc17) (.slice none 0 0) ([] : List Nat) := Lst.nil
    have hrow := l0.row
    go_wp2_with (at_builtin; refine wpList_append_lies _ rfl _ _ 30 rfl (c.bp + 1) 3 i0 _ 1 8 Tryz.underlying30 hi0 hz0 hz1 hz2 rfl (by decide) (.slice none 0 0) (([] : List Nat)).length (ints ([] : List Nat)) rfl (World.ownsRow.alloc hrow _) ⟨w18.heap.size, 0, none⟩ 1 1 [.int .i64 khc17] rfl rfl ?c1 ?c2 ?c3 ?c4 ?c5 ?c6 (w18.heap.size + 1) ?c7 ?_)
    case c1 => exact World.news_of_block (cs := #[.int .i64 khc17]) (t := 3) (fr := (0, 0)) (heap_alloc_new w18 _)
    case c2 => simp [Value.oneCell']
    case c3 => decide
    case c4 => unfold maxLen; first | omega | (simp at hkl ⊢; done) | (simp at hkl ⊢; omega)
    case c5 => first | omega | (simp at hkl ⊢; done) | (simp at hkl ⊢; omega)
    case c6 => simp; omega
    case c7 => simp
    intro g20 cap21 w22 hown hgrow hat hlt
    have hgg25 := grownBy_trans (World.grownBy_alloc w18 _ none) hgrow
    obtain ⟨m23, l24⟩ := m19.append l0 (World.grownBy_alloc w18 _ none) hgrow hown (hat.imp id (by omega))
    clear hown hgrow hat hlt hrow l0 hbase hkl m19
    go_wp2_with fail
    by_cases hx26 : isTok (hd Rhc17) [59] = true
    rotate_left
    · refine (need_no m23.ps m23.rem [59] (by simpa using hx26)).mono ?_
      rintro e wz hbad
      have hb2 := Bad.trans m23.fr hbad
      obtain ⟨rfl, _⟩ := hbad
      exact ⟨rfl, PostN.bad hb2 (by simp [declaredB, need, name, fail, Res.bind, ok1, hx11, hx14, Hhc17.out, hx26])⟩
    refine (need_yes m23.ps m23.rem [59] hx26).mono ?_
    rintro e w27 ⟨rfl, hp, hf⟩
    have m28 := m23.next hp hf
    have l24' := l24.fr hf
    have l29 := l24'
    clear l24' l24
    clear hp hf m23
    go_wp2_with fail
    refine (node_mid m28 l29 h.room kind pos (hd R).text).mono ?_
    rintro e w30 ⟨s32, k31, rfl, m33, hp⟩
    clear hp m28
    go_wp2_with fail
    go_ret
    exact PostN.fin m33 (by simp [declaredB, need, name, fail, Res.bind, ok1, hx11, hx14, Hhc17.out, hx26])

set_option maxRecDepth 100000 in
set_option maxHeartbeats 1000000 in
theorem cond_step (n : Nat) (ih : All n) : CallN 127 [] .cond (n + 1) := by
  intro c w s R lv h hr hlv hle hne
  change Calls _ _ #[.pointer (some ⟨c.bp, 0, none⟩)] w (PostN c w s (condB (pRun n) lv R))
  have HN : Hid (condB (pRun n) lv R ≠ .out) := hne
  have HL : Hid (s.lv = (lv : Int)) := hlv
  clear hne hlv
  have m0 := Mid.start h hr
  clear hr
  go_enter Tryz.func127, Tryz.ntmps127
  have h0 := m0.ps.c0
  have h1 := m0.ps.c1
  have hbp := m0.ps.bp_lt
  have hbl := m0.ps.bl_lt
  have hi := m0.ps.i
  have hlen := m0.ps.len
  have t0 := m0.ps.t0 m0.rem
  have t1 := m0.ps.t1 m0.rem
  have t2 := m0.ps.t2 m0.rem
  have t3 := m0.ps.t3 m0.rem
  go_wp2
  go_region
  clear h0 h1 hbp hbl hi hlen t0 t1 t2 t3
  have m1 := m0.below ((Below.refl _ _).drew)
  clear m0
  generalize w.drew = w2 at m1 ⊢
  go_wp2_with fail
  have HChc3 : Hid (pRun n (.binary lv 3) R ≠ .out) := fun e => HN.out (by simp [condB, need, name, fail, Res.bind, ok1, e])
  refine ((ih.binary 3 (by decide)) _ _ _ _ _ m1.ps m1.rem (m1.lv HL.out) hle HChc3.out).mono ?_
  rintro e w4 hpost
  rcases hc3 : pRun n (.binary lv 3) R with ⟨tshc3, Rhc3⟩ | ⟨en, p⟩ | _
  rotate_left
  · rw [hc3] at hpost
    have hb2 := Bad.trans m1.fr hpost
    obtain ⟨rfl, _⟩ := hpost
    exact ⟨rfl, PostN.bad hb2 (by simp [condB, need, name, fail, Res.bind, ok1, hc3])⟩
  · exact absurd hc3 HChc3.out
  rw [hc3] at hpost
  obtain ⟨shc3, khc3, thc3, rfl, rfl, mm⟩ := hpost
  have m5 := m1.call mm
  have Hhc3 := hidden hc3
  clear mm m1 hc3 HChc3
  go_wp2_with fail
  by_cases hq : isTok (hd Rhc3) [63] = true
  · refine (take_yes m5.ps m5.rem [63] hq).mono ?_
    rintro e wq ⟨rfl, hp, hf⟩
    have m6 := m5.next hp hf
    clear hp hf m5
    go_wp2_with fail
    have HChc7 : Hid (pRun n (.assign lv) Rhc3.tail ≠ .out) := fun e => HN.out (by simp [condB, need, name, fail, Res.bind, ok1, Hhc3.out, hq, e])
    refine (ih.assign _ _ _ _ _ m6.ps m6.rem (m6.lv HL.out) hle HChc7.out).mono ?_
    rintro e w8 hpost
    rcases hc7 : pRun n (.assign lv) Rhc3.tail with ⟨tshc7, Rhc7⟩ | ⟨en, p⟩ | _
    rotate_left
    · rw [hc7] at hpost
      have hb2 := Bad.trans m6.fr hpost
      obtain ⟨rfl, _⟩ := hpost
      exact ⟨rfl, PostN.bad hb2 (by simp [condB, need, name, fail, Res.bind, ok1, Hhc3.out, hq, hc7])⟩
    · exact absurd hc7 HChc7.out
    rw [hc7] at hpost
    obtain ⟨shc7, khc7, thc7, rfl, rfl, mm⟩ := hpost
    have m9 := m6.call mm
    have Hhc7 := hidden hc7
    clear mm m6 hc7 HChc7
    go_wp2_with fail
    by_cases hx10 : isTok (hd Rhc7) [58] = true
    rotate_left
    · refine (need_no m9.ps m9.rem [58] (by simpa using hx10)).mono ?_
      rintro e wz hbad
      have hb2 := Bad.trans m9.fr hbad
      obtain ⟨rfl, _⟩ := hbad
      exact ⟨rfl, PostN.bad hb2 (by simp [condB, need, name, fail, Res.bind, ok1, Hhc3.out, hq, Hhc7.out, hx10])⟩
    refine (need_yes m9.ps m9.rem [58] hx10).mono ?_
    rintro e w11 ⟨rfl, hp, hf⟩
    have m12 := m9.next hp hf
    clear hp hf m9
    go_wp2_with fail
    have HChc13 : Hid (pRun n (.assign lv) Rhc7.tail ≠ .out) := fun e => HN.out (by simp [condB, need, name, fail, Res.bind, ok1, Hhc3.out, hq, Hhc7.out, hx10, e])
    refine (ih.assign _ _ _ _ _ m12.ps m12.rem (m12.lv HL.out) hle HChc13.out).mono ?_
    rintro e w14 hpost
    rcases hc13 : pRun n (.assign lv) Rhc7.tail with ⟨tshc13, Rhc13⟩ | ⟨en, p⟩ | _
    rotate_left
    · rw [hc13] at hpost
      have hb2 := Bad.trans m12.fr hpost
      obtain ⟨rfl, _⟩ := hpost
      exact ⟨rfl, PostN.bad hb2 (by simp [condB, need, name, fail, Res.bind, ok1, Hhc3.out, hq, Hhc7.out, hx10, hc13])⟩
    · exact absurd hc13 HChc13.out
    rw [hc13] at hpost
    obtain ⟨shc13, khc13, thc13, rfl, rfl, mm⟩ := hpost
    have m15 := m12.call mm
    have Hhc13 := hidden hc13
    clear mm m12 hc13 HChc13
    go_wp2_with fail
    have l16 : Lst c w (w14.alloc (.cells #[.int .i64 khc3, .int .i64 khc7, .int .i64 khc13] 3)) _ (.slice (some ⟨w14.heap.size, 0, none⟩) 3 3) [khc3, khc7, khc13] := Lst.made m15 [khc3, khc7, khc13] (by simp)
    have m17 := m15.below ((Below.refl _ _).alloc (Nat.le_refl _) (.cells #[.int .i64 khc3, .int .i64 khc7, .int .i64 khc13] 3))
    clear m15
    generalize w14.alloc (.cells #[.int .i64 khc3, .int .i64 khc7, .int .i64 khc13] 3) = w18 at m17 l16 ⊢
    refine (node_mid m17 l16 h.room 42 (hd R).pos []).mono ?_
    rintro e w19 ⟨s21, k20, rfl, m22, hp⟩
    clear hp m17
    go_wp2_with fail
    go_ret
    exact PostN.fin m22 (by simp [condB, need, name, fail, Res.bind, ok1, Hhc3.out, hq, Hhc7.out, hx10, Hhc13.out])
  · refine (take_no m5.ps m5.rem [63] (by simpa using hq)).mono ?_
    rintro e wq ⟨rfl, hb⟩
    have m23 := m5.below hb
    clear m5
    clear hb
    go_wp2_with fail
    go_ret
    exact PostN.fin m23 (by simp [condB, need, name, fail, Res.bind, ok1, Hhc3.out, hq])

end Go.Proofs.YtgdamcmfdhhheaaGreatDoor

/- A parameter, walked. -/
namespace Go.Proofs.YtgdamcmfdhhheaaGreatDoor
open Go.RowKit Bf

set_option maxRecDepth 100000 in
set_option maxHeartbeats 1000000 in
theorem param_calls {c : Cx} {w : World} {s : St} {R : List Tok} (h : PS c w s) (hr : c.toks.drop s.i = R) (B : Nat) (hB : w.cell? ⟨B, 0, none⟩ = some (.pointer (some ⟨c.bp, 0, none⟩))) (hn : ¬ Own c s B) :
    Calls Tryz.prog 126 #[.pointer (some ⟨B, 0, none⟩)] w (PostN c w s (paramB R)) := by
  have m0 := Mid.start h hr
  clear hr
  have h0 := m0.ps.c0
  have h1 := m0.ps.c1
  have hbp := m0.ps.bp_lt
  have hbl := m0.ps.bl_lt
  have hi := m0.ps.i
  have hlen := m0.ps.len
  have t1 := m0.ps.t1 m0.rem
  go_enter Tryz.func126, Tryz.ntmps126
  go_wp2
  go_region
  go_wp2_with fail
  clear h0 h1 hbp hbl hi hlen t1
  have m1 : Mid c w s w.drew.drew s R [] [] 0 := m0.below ((Below.refl _ _).drew.drew)
  have hb1 : w.drew.drew.cell? ⟨B, 0, none⟩ = some (.pointer (some ⟨c.bp, 0, none⟩)) := hB
  clear m0 hB
  go_region_held2 (fun w' => w'.cell? ⟨B, 0, none⟩ = some (.pointer (some ⟨c.bp, 0, none⟩)))
    (first | assumption | go_keep)
    (first
      | (go_at_call 95
         by_cases hx : ((hd R).kind == 1) = true
         rotate_left
         · refine (name_no m1.ps m1.rem (by simpa using hx)).mono ?_
           rintro e wz hbad
           have hb2 := Bad.trans m1.fr hbad
           obtain ⟨rfl, _⟩ := hbad
           exact ⟨rfl, PostN.bad hb2 (by simp [paramB, name, fail, Res.bind, hx])⟩
         refine (name_yes m1.ps m1.rem hx).mono ?_
         rintro e w2 ⟨rfl, hp, hf⟩
         have m2 := m1.next hp hf
         have hb2 := hf.cell hb1 hn
         have hn2 : ¬ Own c s.next B := hn
         clear hp hf)
      | (go_at_call 57
         refine (node_mid m2 Lst.nil h.room 26 (hd R).pos (hd R).text).mono ?_
         rintro e w3 ⟨s', k', rfl, m3, hp⟩
         have hb3 : w3.cell? ⟨B, 0, none⟩ = some (.pointer (some ⟨c.bp, 0, none⟩)) := (World.cell?_of_block (hp.block B (World.block_lt_of_cell? _ _ hb2) hn2)).trans hb2
         clear hp))
  go_wp2_with fail
  go_ret
  exact PostN.fin m3 (by simp [paramB, name, Res.bind, ok1, hx])

end Go.Proofs.YtgdamcmfdhhheaaGreatDoor

/- A list of parts with commas, walked. -/
namespace Go.Proofs.YtgdamcmfdhhheaaGreatDoor
open Go.RowKit Bf

/-- The function that is handed to a list: what it is called with, and that this is there. -/
def oneV (c : Cx) (o : One) (B : Nat) : Value :=
  match o with
  | .assign => .func (.func 102) #[.pointer (some ⟨c.bp, 0, none⟩)] #[]
  | .pair => .func (.func 155) #[.pointer (some ⟨c.bp, 0, none⟩)] #[]
  | .param => .func (.func 126) #[] #[.pointer (some ⟨B, 0, none⟩)]

def OneOk (c : Cx) (w : World) (s : St) (o : One) (B : Nat) : Prop :=
  o = .param → w.cell? ⟨B, 0, none⟩ = some (.pointer (some ⟨c.bp, 0, none⟩)) ∧ ¬ Own c s B

theorem OneOk.fr {c : Cx} {w w' : World} {s s' : St} {o : One} {B : Nat} (h : OneOk c w s o B) (hf : Fr c w s w' s') : OneOk c w' s' o B := fun e => by
  obtain ⟨h1, h2⟩ := h e
  refine ⟨hf.cell h1 h2, fun ho => (hf.own B ho).elim h2 (fun hs => ?_)⟩
  have := World.block_lt_of_cell? _ _ h1
  simp at this
  omega

theorem OneOk.grown {c : Cx} {w w' : World} {s : St} {o : One} {B : Nat} (h : OneOk c w s o B) {row : Option Nat} (hg : w.grownBy w' row) (hr : row ≠ some B) : OneOk c w' s o B := fun e => by
  obtain ⟨h1, h2⟩ := h e
  exact ⟨hg.cell h1 (Ne.symm hr), h2⟩

theorem OneOk.below {c : Cx} {w w' : World} {s : St} {o : One} {B : Nat} (h : OneOk c w s o B) (hb : Below w.heap.size w w') : OneOk c w' s o B := h.grown (grownBy_of_below hb none) (by simp)

theorem OneOk.lt {c : Cx} {w : World} {s : St} {B : Nat} (h : OneOk c w s .param B) : B < w.heap.size := World.block_lt_of_cell? w ⟨B, 0, none⟩ (h rfl).1

theorem Mid.box {c : Cx} {w wi : World} {s si : St} {R : List Tok} {TS : List T} {KS : List Nat} {d : Nat} (m : Mid c w s wi si R TS KS d) :
    OneOk c (wi.alloc (.cells #[.pointer (some ⟨c.bp, 0, none⟩)] 69)) si .param wi.heap.size := fun _ => by
  refine ⟨?_, fun ho => by have := (m.ps.own_ge ho).2; omega⟩
  rw [cell_of_row _ _ _ _ _ _ (heap_alloc_new wi _)]
  rfl

theorem Row.len {c : Cx} {w : World} {v : Value} {ks : List Nat} (h : Row c w v ks) : ∃ a k, v = .slice a ks.length k := by
  rcases h.2 with ⟨rfl, e⟩ | ⟨g, cap, cur, rfl, _⟩
  · exact ⟨none, 0, by rw [e]⟩
  · exact ⟨_, _, rfl⟩

/-- What is left of a list. -/
def Items (n lv : Nat) (e : List UInt8) (most : Nat) (o : One) (R0 : List Tok) (m : Nat) (TS : List T) (R : List Tok) : Prop :=
  m ≤ n ∧ pRun n (.list lv e most o 0) R0 = (pRun m (.list lv e most o TS.length) R).bind fun ks r => .ok (TS ++ ks) r

theorem Items.start (n lv : Nat) (e : List UInt8) (most : Nat) (o : One) (R : List Tok) : Items n lv e most o R n [] R := by
  refine ⟨Nat.le_refl _, ?_⟩
  show pRun n (.list lv e most o 0) R = (pRun n (.list lv e most o 0) R).bind _
  cases pRun n (.list lv e most o 0) R <;> rfl

section
variable {n lv : Nat} {e : List UInt8} {most : Nat} {o : One} {R0 R : List Tok} {m : Nat} {TS : List T}

theorem Items.pos (h : Items n lv e most o R0 m TS R) (hne : pRun n (.list lv e most o 0) R0 ≠ .out) : ∃ m', m = m' + 1 := by
  cases m with
  | zero => exact absurd h.2 hne
  | succ m => exact ⟨m, rfl⟩

theorem Items.stop (h : Items n lv e most o R0 (m + 1) TS R) (hs : isTok (hd R) e = true) : pRun n (.list lv e most o 0) R0 = .ok TS R.tail := by
  rw [h.2]
  simp only [pRun, pStep, listB, hs, if_true, Res.bind, List.append_nil]

theorem Items.comma (h : Items n lv e most o R0 (m + 1) TS R) (hs : isTok (hd R) e = false) (h0 : 0 < TS.length) (hc : isTok (hd R) [44] = false) : pRun n (.list lv e most o 0) R0 = .err 5 (hd R).pos := by
  rw [h.2]
  simp only [pRun, pStep, listB, hs, if_pos h0, need, hc, Bool.false_eq_true, if_false, Res.bind, fail]

theorem Items.full (h : Items n lv e most o R0 (m + 1) TS R) (hs : isTok (hd R) e = false) {r : List Tok} (hr : (if 0 < TS.length then need [44] R else .ok () R : Res Unit) = .ok () r) (hm : TS.length = most) : pRun n (.list lv e most o 0) R0 = .err 5 (hd r).pos := by
  rw [h.2]
  simp only [pRun, pStep, listB, hs, Bool.false_eq_true, if_false, hr, Res.bind]
  rw [if_pos (by simpa using hm)]
  rfl

theorem Items.go (h : Items n lv e most o R0 (m + 1) TS R) (hne : pRun n (.list lv e most o 0) R0 ≠ .out) (hs : isTok (hd R) e = false) {r : List Tok}
    (hr : (if 0 < TS.length then need [44] R else .ok () R : Res Unit) = .ok () r) (hm : TS.length ≠ most) :
    pRun n (o.g lv) r ≠ .out ∧ (∀ en p, pRun n (o.g lv) r = .err en p → pRun n (.list lv e most o 0) R0 = .err en p) ∧
      (∀ t R', pRun n (o.g lv) r = .ok [t] R' → Items n lv e most o R0 m (TS ++ [t]) R') := by
  have h2 := h.2
  simp only [pRun, pStep, listB, hs, Bool.false_eq_true, if_false, hr, Res.bind, beq_eq_false_iff_ne.2 hm] at h2
  have hmn : m ≤ n := Nat.le_of_succ_le h.1
  cases hc : pRun m (o.g lv) r with
  | out => rw [hc] at h2; exact absurd h2 hne
  | err en p =>
    have := pRun_mono hmn (o.g lv) r (by rw [hc]; simp)
    rw [this, hc]
    rw [hc] at h2
    refine ⟨by simp, ?_, by simp⟩
    rintro e' p' ⟨⟩
    exact h2
  | ok ts R' =>
    have := pRun_mono hmn (o.g lv) r (by rw [hc]; simp)
    rw [this, hc]
    rw [hc] at h2
    refine ⟨by simp, by simp, ?_⟩
    rintro t R'' ⟨⟩
    refine ⟨hmn, h2.trans ?_⟩
    simp only [List.length_append, List.length_cons, List.length_nil, Nat.zero_add]
    cases pRun m (.list lv e most o (TS.length + 1)) R' <;> simp [Res.bind]
end

theorem param_of_one {n : Nat} (ih : All n) {c : Cx} {w : World} {s : St} {R : List Tok} {lv : Nat} {B : Nat} (h : PS c w s) (hr : c.toks.drop s.i = R) (hne : pRun n (One.param.g lv) R ≠ .out) (ho : OneOk c w s .param B) :
    Calls Tryz.prog 126 #[.pointer (some ⟨B, 0, none⟩)] w (PostN c w s (pRun n (One.param.g lv) R)) := by
  cases n with
  | zero => exact absurd rfl hne
  | succ n => exact param_calls h hr B (ho rfl).1 (ho rfl).2

set_option maxRecDepth 100000 in
set_option maxHeartbeats 4000000 in
theorem list_assign (n : Nat) (ih : All n) {c : Cx} {w : World} {s : St} {R : List Tok} {lv : Nat} (h : PS c w s) (hr : c.toks.drop s.i = R) (hlv : s.lv = (lv : Int)) (hle : lv ≤ 200)
    (e : List UInt8) (most : Nat) (hmost : most ≤ 20000) (B : Nat) (hne : pRun n (.list lv e most .assign 0) R ≠ .out) (ho : OneOk c w s .assign B) :
    Calls Tryz.prog 125 #[.pointer (some ⟨c.bp, 0, none⟩), .string ⟨e.toArray⟩, .int .i64 most, .func (.func 102) #[.pointer (some ⟨c.bp, 0, none⟩)] #[]] w (PostL c w s (pRun n (.list lv e most .assign 0) R)) := by
  have HN := hidden hne
  have HL := hidden hlv
  clear hne hlv
  obtain ⟨i0, hi0, hz0, hz1, hz2⟩ := info_parts Tryz.infoInt
  have m0 := Mid.start h hr
  clear hr
  go_enter Tryz.func125, Tryz.ntmps125
  go_wp2_with fail
  go_loopg [9] n (fun m u wr => ∃ kv si TS KS Ri d, kv = u ∧ Mid c w s wr si Ri TS KS d ∧ Lst c w wr si kv KS ∧ Items n lv e most .assign R m TS Ri ∧ OneOk c wr si .assign B)
  case atStart => exact ⟨_, _, _, _, _, _, rfl, m0, Lst.nil, Items.start n lv e most .assign R, ho⟩
  case round =>
    obtain ⟨kv, si, TS, KS, Ri, d, rfl, m3, l3, q3, o3⟩ := hrel
    clear m0 ho
    obtain ⟨m, rfl⟩ := q3.pos HN.out
    obtain ⟨ka, kc, rfl⟩ := Row.len l3.row
    go_wp2_with fail
    refine (is_calls m3.ps m3.rem e).mono ?_
    rintro e' w3 ⟨rfl, hb⟩
    have m4 := m3.below hb
    have l4 := l3.below hb
    have o4 := o3.below hb
    clear hb m3 l3 o3
    by_cases hend : isTok (hd Ri) e = true
    · have hq := hidden (q3.stop hend)
      go_wp2_with fail
      refine (need_yes m4.ps m4.rem e hend).mono ?_
      rintro e' w4 ⟨rfl, hp, hf⟩
      have m5 := m4.next hp hf
      have l5 := l4.fr hf
      clear hp hf m4 l4
      go_wp2_with fail
      go_ret
      exact PostL.fin m5 l5 hq.out
    · have hend' : isTok (hd Ri) e = false := by simpa using hend
      have hlen := hidden (RepL.length m4.rp)
      by_cases h0 : 0 < KS.length
      case' pos =>
        have h0' : 0 < TS.length := by rw [← hlen.out]; exact h0
        go_wp2_with fail
        by_cases hc : isTok (hd Ri) [44] = true
        rotate_left
        · refine (need_no m4.ps m4.rem [44] (by simpa using hc)).mono ?_
          rintro e' wz hbad
          have hb2 := Bad.trans m4.fr hbad
          obtain ⟨rfl, _⟩ := hbad
          exact ⟨rfl, PostL.bad hb2 (q3.comma hend' h0' (by simpa using hc))⟩
        refine (need_yes m4.ps m4.rem [44] hc).mono ?_
        rintro e' w4 ⟨rfl, hp, hf⟩
        have m5 := m4.next hp hf
        have l5 := l4.fr hf
        have o5 := o4.fr hf
        have hr := hidden (show (if 0 < TS.length then need [44] Ri else .ok () Ri : Res Unit) = .ok () Ri.tail by rw [if_pos h0']; simp [need, hc])
        clear hp hf m4 l4 o4
      case' neg =>
        have m5 := m4
        have l5 := l4
        have o5 := o4
        have hr := hidden (show (if 0 < TS.length then need [44] Ri else .ok () Ri : Res Unit) = .ok () Ri by rw [if_neg (by rw [← hlen.out]; exact h0)])
        clear m4 l4 o4
      all_goals
        by_cases hm : KS.length = most
        · have hm1 : (((KS.length : Nat) : Int) == (most : Int)) = true := by rw [beqK]; simpa using hm
          have hq := hidden (q3.full hend' hr.out (hlen.out.symm.trans hm))
          clear hm
          go_wp2_with fail
          refine (fail_calls m5.ps m5.rem 5).mono ?_
          rintro e' wz hbad
          have hb2 := Bad.trans m5.fr hbad
          obtain ⟨rfl, _⟩ := hbad
          exact ⟨rfl, PostL.bad hb2 hq.out⟩
        · have hm1 : (((KS.length : Nat) : Int) == (most : Int)) = false := by rw [beqK]; simpa using hm
          obtain ⟨hne, herr, hok⟩ := q3.go HN.out hend' hr.out (fun e => hm (hlen.out.trans e))
          have HO := hidden hok
          clear hm hok
          go_wp2_with fail
          refine (ih.assign _ _ _ _ _ m5.ps m5.rem (m5.lv HL.out) hle hne).mono ?_
          rintro e' w4 hpost
          rcases PostN.cases hpost with ⟨en, p, hc, hbad⟩ | ⟨sj, k, t, R', hc, rfl, mm⟩
          · have hb2 := Bad.trans m5.fr hbad
            obtain ⟨rfl, _⟩ := hbad
            exact ⟨rfl, PostL.bad hb2 (herr _ _ hc)⟩
          clear hpost
          have l6 := l5.fr mm.fr
          have o6 := o5.fr mm.fr
          have m6 := m5.call mm
          have hst := HO.out _ _ hc
          clear mm m5 l5 o5 hc herr hne HO
          have hbase := m6.ps.bp_lt
          have hkl : KS.length + 1 ≤ 16385 := by have := m6.kids_le; simpa using this
          have hrow := l6.row
          go_wp2_with (at_builtin; refine wpList_append_lies _ rfl _ _ 30 rfl (c.bp + 1) 3 i0 _ 1 8 Tryz.underlying30 hi0 hz0 hz1 hz2 rfl (by decide) (.slice ka KS.length kc) KS.length (ints KS) rfl (World.ownsRow.alloc hrow _) ⟨w4.heap.size, 0, none⟩ 1 1 [.int .i64 k] rfl rfl ?c1 ?c2 ?c3 ?c4 ?c5 ?c6 (w4.heap.size + 1) ?c7 ?_)
          case c1 => exact World.news_of_block (cs := #[.int .i64 k]) (t := 3) (fr := (0, 0)) (heap_alloc_new w4 _)
          case c2 => simp [Value.oneCell']
          case c3 => decide
          case c4 => unfold maxLen; omega
          case c5 => omega
          case c6 => simp; omega
          case c7 => simp
          intro g cap w5 hown hgrow hat hlt
          have hgg := grownBy_trans (World.grownBy_alloc w4 _ none) hgrow
          have o7 : OneOk c w5 sj .assign B := fun e => nomatch e
          obtain ⟨m7, l7⟩ := m6.append l6 (World.grownBy_alloc w4 _ none) hgrow hown (hat.imp id (by omega))
          clear hown hgrow hat hlt hrow m6 l6 o6 hbase hkl hgg
          go_wp2_with fail
          go_roundg m
          case measure => omega
          case rel => exact ⟨_, _, _, _, _, _, rfl, m7, l7, hst, o7⟩

set_option maxRecDepth 100000 in
set_option maxHeartbeats 4000000 in
theorem list_pair (n : Nat) (ih : All n) {c : Cx} {w : World} {s : St} {R : List Tok} {lv : Nat} (h : PS c w s) (hr : c.toks.drop s.i = R) (hlv : s.lv = (lv : Int)) (hle : lv ≤ 200)
    (e : List UInt8) (most : Nat) (hmost : most ≤ 20000) (B : Nat) (hne : pRun n (.list lv e most .pair 0) R ≠ .out) (ho : OneOk c w s .pair B) :
    Calls Tryz.prog 125 #[.pointer (some ⟨c.bp, 0, none⟩), .string ⟨e.toArray⟩, .int .i64 most, .func (.func 155) #[.pointer (some ⟨c.bp, 0, none⟩)] #[]] w (PostL c w s (pRun n (.list lv e most .pair 0) R)) := by
  have HN := hidden hne
  have HL := hidden hlv
  clear hne hlv
  obtain ⟨i0, hi0, hz0, hz1, hz2⟩ := info_parts Tryz.infoInt
  have m0 := Mid.start h hr
  clear hr
  go_enter Tryz.func125, Tryz.ntmps125
  go_wp2_with fail
  go_loopg [9] n (fun m u wr => ∃ kv si TS KS Ri d, kv = u ∧ Mid c w s wr si Ri TS KS d ∧ Lst c w wr si kv KS ∧ Items n lv e most .pair R m TS Ri ∧ OneOk c wr si .pair B)
  case atStart => exact ⟨_, _, _, _, _, _, rfl, m0, Lst.nil, Items.start n lv e most .pair R, ho⟩
  case round =>
    obtain ⟨kv, si, TS, KS, Ri, d, rfl, m3, l3, q3, o3⟩ := hrel
    clear m0 ho
    obtain ⟨m, rfl⟩ := q3.pos HN.out
    obtain ⟨ka, kc, rfl⟩ := Row.len l3.row
    go_wp2_with fail
    refine (is_calls m3.ps m3.rem e).mono ?_
    rintro e' w3 ⟨rfl, hb⟩
    have m4 := m3.below hb
    have l4 := l3.below hb
    have o4 := o3.below hb
    clear hb m3 l3 o3
    by_cases hend : isTok (hd Ri) e = true
    · have hq := hidden (q3.stop hend)
      go_wp2_with fail
      refine (need_yes m4.ps m4.rem e hend).mono ?_
      rintro e' w4 ⟨rfl, hp, hf⟩
      have m5 := m4.next hp hf
      have l5 := l4.fr hf
      clear hp hf m4 l4
      go_wp2_with fail
      go_ret
      exact PostL.fin m5 l5 hq.out
    · have hend' : isTok (hd Ri) e = false := by simpa using hend
      have hlen := hidden (RepL.length m4.rp)
      by_cases h0 : 0 < KS.length
      case' pos =>
        have h0' : 0 < TS.length := by rw [← hlen.out]; exact h0
        go_wp2_with fail
        by_cases hc : isTok (hd Ri) [44] = true
        rotate_left
        · refine (need_no m4.ps m4.rem [44] (by simpa using hc)).mono ?_
          rintro e' wz hbad
          have hb2 := Bad.trans m4.fr hbad
          obtain ⟨rfl, _⟩ := hbad
          exact ⟨rfl, PostL.bad hb2 (q3.comma hend' h0' (by simpa using hc))⟩
        refine (need_yes m4.ps m4.rem [44] hc).mono ?_
        rintro e' w4 ⟨rfl, hp, hf⟩
        have m5 := m4.next hp hf
        have l5 := l4.fr hf
        have o5 := o4.fr hf
        have hr := hidden (show (if 0 < TS.length then need [44] Ri else .ok () Ri : Res Unit) = .ok () Ri.tail by rw [if_pos h0']; simp [need, hc])
        clear hp hf m4 l4 o4
      case' neg =>
        have m5 := m4
        have l5 := l4
        have o5 := o4
        have hr := hidden (show (if 0 < TS.length then need [44] Ri else .ok () Ri : Res Unit) = .ok () Ri by rw [if_neg (by rw [← hlen.out]; exact h0)])
        clear m4 l4 o4
      all_goals
        by_cases hm : KS.length = most
        · have hm1 : (((KS.length : Nat) : Int) == (most : Int)) = true := by rw [beqK]; simpa using hm
          have hq := hidden (q3.full hend' hr.out (hlen.out.symm.trans hm))
          clear hm
          go_wp2_with fail
          refine (fail_calls m5.ps m5.rem 5).mono ?_
          rintro e' wz hbad
          have hb2 := Bad.trans m5.fr hbad
          obtain ⟨rfl, _⟩ := hbad
          exact ⟨rfl, PostL.bad hb2 hq.out⟩
        · have hm1 : (((KS.length : Nat) : Int) == (most : Int)) = false := by rw [beqK]; simpa using hm
          obtain ⟨hne, herr, hok⟩ := q3.go HN.out hend' hr.out (fun e => hm (hlen.out.trans e))
          have HO := hidden hok
          clear hm hok
          go_wp2_with fail
          refine (ih.pair _ _ _ _ _ m5.ps m5.rem (m5.lv HL.out) hle hne).mono ?_
          rintro e' w4 hpost
          rcases PostN.cases hpost with ⟨en, p, hc, hbad⟩ | ⟨sj, k, t, R', hc, rfl, mm⟩
          · have hb2 := Bad.trans m5.fr hbad
            obtain ⟨rfl, _⟩ := hbad
            exact ⟨rfl, PostL.bad hb2 (herr _ _ hc)⟩
          clear hpost
          have l6 := l5.fr mm.fr
          have o6 := o5.fr mm.fr
          have m6 := m5.call mm
          have hst := HO.out _ _ hc
          clear mm m5 l5 o5 hc herr hne HO
          have hbase := m6.ps.bp_lt
          have hkl : KS.length + 1 ≤ 16385 := by have := m6.kids_le; simpa using this
          have hrow := l6.row
          go_wp2_with (at_builtin; refine wpList_append_lies _ rfl _ _ 30 rfl (c.bp + 1) 3 i0 _ 1 8 Tryz.underlying30 hi0 hz0 hz1 hz2 rfl (by decide) (.slice ka KS.length kc) KS.length (ints KS) rfl (World.ownsRow.alloc hrow _) ⟨w4.heap.size, 0, none⟩ 1 1 [.int .i64 k] rfl rfl ?c1 ?c2 ?c3 ?c4 ?c5 ?c6 (w4.heap.size + 1) ?c7 ?_)
          case c1 => exact World.news_of_block (cs := #[.int .i64 k]) (t := 3) (fr := (0, 0)) (heap_alloc_new w4 _)
          case c2 => simp [Value.oneCell']
          case c3 => decide
          case c4 => unfold maxLen; omega
          case c5 => omega
          case c6 => simp; omega
          case c7 => simp
          intro g cap w5 hown hgrow hat hlt
          have hgg := grownBy_trans (World.grownBy_alloc w4 _ none) hgrow
          have o7 : OneOk c w5 sj .pair B := fun e => nomatch e
          obtain ⟨m7, l7⟩ := m6.append l6 (World.grownBy_alloc w4 _ none) hgrow hown (hat.imp id (by omega))
          clear hown hgrow hat hlt hrow m6 l6 o6 hbase hkl hgg
          go_wp2_with fail
          go_roundg m
          case measure => omega
          case rel => exact ⟨_, _, _, _, _, _, rfl, m7, l7, hst, o7⟩

set_option maxRecDepth 100000 in
set_option maxHeartbeats 4000000 in
theorem list_param (n : Nat) (ih : All n) {c : Cx} {w : World} {s : St} {R : List Tok} {lv : Nat} (h : PS c w s) (hr : c.toks.drop s.i = R) (hlv : s.lv = (lv : Int)) (hle : lv ≤ 200)
    (e : List UInt8) (most : Nat) (hmost : most ≤ 20000) (B : Nat) (hne : pRun n (.list lv e most .param 0) R ≠ .out) (ho : OneOk c w s .param B) :
    Calls Tryz.prog 125 #[.pointer (some ⟨c.bp, 0, none⟩), .string ⟨e.toArray⟩, .int .i64 most, .func (.func 126) #[] #[.pointer (some ⟨B, 0, none⟩)]] w (PostL c w s (pRun n (.list lv e most .param 0) R)) := by
  have HN := hidden hne
  have HL := hidden hlv
  have hB := World.block_lt_of_cell? _ _ (ho rfl).1
  simp only at hB
  clear hne hlv
  obtain ⟨i0, hi0, hz0, hz1, hz2⟩ := info_parts Tryz.infoInt
  have m0 := Mid.start h hr
  clear hr
  go_enter Tryz.func125, Tryz.ntmps125
  go_wp2_with fail
  go_loopg [9] n (fun m u wr => ∃ kv si TS KS Ri d, kv = u ∧ Mid c w s wr si Ri TS KS d ∧ Lst c w wr si kv KS ∧ Items n lv e most .param R m TS Ri ∧ OneOk c wr si .param B)
  case atStart => exact ⟨_, _, _, _, _, _, rfl, m0, Lst.nil, Items.start n lv e most .param R, ho⟩
  case round =>
    obtain ⟨kv, si, TS, KS, Ri, d, rfl, m3, l3, q3, o3⟩ := hrel
    clear m0 ho
    obtain ⟨m, rfl⟩ := q3.pos HN.out
    obtain ⟨ka, kc, rfl⟩ := Row.len l3.row
    go_wp2_with fail
    refine (is_calls m3.ps m3.rem e).mono ?_
    rintro e' w3 ⟨rfl, hb⟩
    have m4 := m3.below hb
    have l4 := l3.below hb
    have o4 := o3.below hb
    clear hb m3 l3 o3
    by_cases hend : isTok (hd Ri) e = true
    · have hq := hidden (q3.stop hend)
      go_wp2_with fail
      refine (need_yes m4.ps m4.rem e hend).mono ?_
      rintro e' w4 ⟨rfl, hp, hf⟩
      have m5 := m4.next hp hf
      have l5 := l4.fr hf
      clear hp hf m4 l4
      go_wp2_with fail
      go_ret
      exact PostL.fin m5 l5 hq.out
    · have hend' : isTok (hd Ri) e = false := by simpa using hend
      have hlen := hidden (RepL.length m4.rp)
      by_cases h0 : 0 < KS.length
      case' pos =>
        have h0' : 0 < TS.length := by rw [← hlen.out]; exact h0
        go_wp2_with fail
        by_cases hc : isTok (hd Ri) [44] = true
        rotate_left
        · refine (need_no m4.ps m4.rem [44] (by simpa using hc)).mono ?_
          rintro e' wz hbad
          have hb2 := Bad.trans m4.fr hbad
          obtain ⟨rfl, _⟩ := hbad
          exact ⟨rfl, PostL.bad hb2 (q3.comma hend' h0' (by simpa using hc))⟩
        refine (need_yes m4.ps m4.rem [44] hc).mono ?_
        rintro e' w4 ⟨rfl, hp, hf⟩
        have m5 := m4.next hp hf
        have l5 := l4.fr hf
        have o5 := o4.fr hf
        have hr := hidden (show (if 0 < TS.length then need [44] Ri else .ok () Ri : Res Unit) = .ok () Ri.tail by rw [if_pos h0']; simp [need, hc])
        clear hp hf m4 l4 o4
      case' neg =>
        have m5 := m4
        have l5 := l4
        have o5 := o4
        have hr := hidden (show (if 0 < TS.length then need [44] Ri else .ok () Ri : Res Unit) = .ok () Ri by rw [if_neg (by rw [← hlen.out]; exact h0)])
        clear m4 l4 o4
      all_goals
        by_cases hm : KS.length = most
        · have hm1 : (((KS.length : Nat) : Int) == (most : Int)) = true := by rw [beqK]; simpa using hm
          have hq := hidden (q3.full hend' hr.out (hlen.out.symm.trans hm))
          clear hm
          go_wp2_with fail
          refine (fail_calls m5.ps m5.rem 5).mono ?_
          rintro e' wz hbad
          have hb2 := Bad.trans m5.fr hbad
          obtain ⟨rfl, _⟩ := hbad
          exact ⟨rfl, PostL.bad hb2 hq.out⟩
        · have hm1 : (((KS.length : Nat) : Int) == (most : Int)) = false := by rw [beqK]; simpa using hm
          obtain ⟨hne, herr, hok⟩ := q3.go HN.out hend' hr.out (fun e => hm (hlen.out.trans e))
          have HO := hidden hok
          clear hm hok
          go_wp2_with fail
          refine (param_of_one ih m5.ps m5.rem hne o5).mono ?_
          rintro e' w4 hpost
          rcases PostN.cases hpost with ⟨en, p, hc, hbad⟩ | ⟨sj, k, t, R', hc, rfl, mm⟩
          · have hb2 := Bad.trans m5.fr hbad
            obtain ⟨rfl, _⟩ := hbad
            exact ⟨rfl, PostL.bad hb2 (herr _ _ hc)⟩
          clear hpost
          have l6 := l5.fr mm.fr
          have o6 := o5.fr mm.fr
          have m6 := m5.call mm
          have hst := HO.out _ _ hc
          clear mm m5 l5 o5 hc herr hne HO
          have hbase := m6.ps.bp_lt
          have hkl : KS.length + 1 ≤ 16385 := by have := m6.kids_le; simpa using this
          have hrow := l6.row
          go_wp2_with (at_builtin; refine wpList_append_lies _ rfl _ _ 30 rfl (c.bp + 1) 3 i0 _ 1 8 Tryz.underlying30 hi0 hz0 hz1 hz2 rfl (by decide) (.slice ka KS.length kc) KS.length (ints KS) rfl (World.ownsRow.alloc hrow _) ⟨w4.heap.size, 0, none⟩ 1 1 [.int .i64 k] rfl rfl ?c1 ?c2 ?c3 ?c4 ?c5 ?c6 (w4.heap.size + 1) ?c7 ?_)
          case c1 => exact World.news_of_block (cs := #[.int .i64 k]) (t := 3) (fr := (0, 0)) (heap_alloc_new w4 _)
          case c2 => simp [Value.oneCell']
          case c3 => decide
          case c4 => unfold maxLen; omega
          case c5 => omega
          case c6 => simp; omega
          case c7 => simp
          intro g cap w5 hown hgrow hat hlt
          have hgg := grownBy_trans (World.grownBy_alloc w4 _ none) hgrow
          have o7 := o6.grown hgg (fun eB => by
            have := (l6.new _ eB).2.1
            omega)
          obtain ⟨m7, l7⟩ := m6.append l6 (World.grownBy_alloc w4 _ none) hgrow hown (hat.imp id (by omega))
          clear hown hgrow hat hlt hrow m6 l6 o6 hbase hkl hgg
          go_wp2_with fail
          go_roundg m
          case measure => omega
          case rel => exact ⟨_, _, _, _, _, _, rfl, m7, l7, hst, o7⟩

end Go.Proofs.YtgdamcmfdhhheaaGreatDoor
