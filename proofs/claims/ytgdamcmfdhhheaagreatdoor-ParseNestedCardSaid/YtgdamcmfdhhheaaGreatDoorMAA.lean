/- All parts of the parser, at any fuel. -/
import Derived.Test.YtgdamcmfdhhheaaGreatDoorMA3
import Derived.Test.YtgdamcmfdhhheaaGreatDoorMA4
import Derived.Test.YtgdamcmfdhhheaaGreatDoorMA5
import Derived.Test.YtgdamcmfdhhheaaGreatDoorMA8
import Derived.Test.YtgdamcmfdhhheaaGreatDoorMA9
import Derived.Test.YtgdamcmfdhhheaaGreatDoorRows
import Derived.Test.YtgdamcmfdhhheaaGreatDoorMA1
import Derived.WalkSpells
import Derived.WalkLawsBesides
import Derived.Recover
import Derived.Defers
import Derived.Deep.RegionHeld2
import Derived.Laws.NewBlocks
import Derived.Deep.LoopGhost
import Derived.Test.YtgdamcmfdhhheaaGreatDoorMA2
import Derived.Deep.OwnRows
set_option linter.all false

namespace Go.Proofs.YtgdamcmfdhhheaaGreatDoor
open Go.RowKit Bf

theorem all_zero : All 0 where
  stmt := fun _ _ _ _ _ _ _ _ _ h => absurd rfl h
  block := fun _ _ _ _ _ _ _ _ _ h => absurd rfl h
  declared := fun _ _ _ _ _ _ _ _ _ _ _ _ h => absurd rfl h
  rest := fun _ _ _ _ _ _ _ _ _ h => absurd rfl h
  tested := fun _ _ _ _ _ _ _ _ _ h => absurd rfl h
  body := fun _ _ _ _ _ _ _ _ _ h => absurd rfl h
  loop := fun _ _ _ _ _ _ _ _ _ _ h => absurd rfl h
  jump := fun _ _ _ _ _ _ _ _ _ _ _ _ h => absurd rfl h
  try_ := fun _ _ _ _ _ _ _ _ _ _ h => absurd rfl h
  assign := fun _ _ _ _ _ _ _ _ _ h => absurd rfl h
  cond := fun _ _ _ _ _ _ _ _ _ h => absurd rfl h
  binary := fun _ _ _ _ _ _ _ _ _ _ _ h => absurd rfl h
  unary := fun _ _ _ _ _ _ _ _ _ h => absurd rfl h
  postfix_ := fun _ _ _ _ _ _ _ _ _ _ h => absurd rfl h
  primary := fun _ _ _ _ _ _ _ _ _ h => absurd rfl h
  pair := fun _ _ _ _ _ _ _ _ _ h => absurd rfl h
  key := fun _ _ _ _ _ _ _ _ _ h => absurd rfl h

theorem all_succ (n : Nat) (ih : All n) : All (n + 1) where
  stmt := stmt_step n ih
  block := block_step n ih
  declared := declared_step n ih
  rest := rest_step n ih
  tested := tested_step n ih
  body := body_step n ih
  loop := loop_step n ih
  jump := jump_step n ih
  try_ := try_step n ih
  assign := assign_step n ih
  cond := cond_step n ih
  binary := fun least hl => binary_step n ih least hl
  unary := unary_step n ih
  postfix_ := fun calls => by cases calls; exact postfix_false n ih; exact postfix_true n ih
  primary := primary_step n ih
  pair := pair_step n ih
  key := key_step n ih

theorem all (n : Nat) : All n := by
  induction n with
  | zero => exact all_zero
  | succ n ih => exact all_succ n ih

end Go.Proofs.YtgdamcmfdhhheaaGreatDoor

/- The closure that catches the parser's panic: its two contracts. -/
namespace Go.Proofs.YtgdamcmfdhhheaaGreatDoor
open Go.RowKit Bf

/-- What the catching leaves: three cells are set. -/
structure Caught (w w' : World) (a b e : Nat) (pos en : Int) : Prop where
  os : w'.os = w.os
  tape : w'.tape = w.tape
  output : w'.output = w.output
  size : w.heap.size ≤ w'.heap.size
  block : ∀ k, k < w.heap.size → k ≠ a → k ≠ b → k ≠ e → w'.heap[k]? = w.heap[k]?
  ca : w'.cell? ⟨a, 0, none⟩ = some (.int .i64 0)
  cb : w'.cell? ⟨b, 0, none⟩ = some (.int .i64 pos)
  ce : w'.cell? ⟨e, 0, none⟩ = some (.int .i64 en)

@[go_sem] theorem as_stop (v : Value) (w : World) : (Instr.typeAssert (.iface 101 v) 20 101 true).run Tryz.prog w = .ok (.tuple #[v, .bool true]) w := by kernel_rfl

theorem catch_idle (a b e : Addr) (w : World) :
    CallsD Tryz.prog 55 #[.pointer (some a), .pointer (some b), .pointer (some e)] .returning w fun en u' w' => en = .returned (.tuple #[]) ∧ u' = .returning ∧ w' = w := by
  refine callsD_of_wpS Tryz.func55 rfl fun c₀ cs hu => ?_
  apply wpS_seq
  apply wpS_region
  simp [wpOpsS, go_sem, recoverD, hu, Tryz.ntmps55, Exit.thenS]
  refine wpS_of_wp ?_
  go_wp2
  cases c₀
  simp_all [bodyPostS, results, Tryz.results55]

set_option maxRecDepth 100000 in
set_option maxHeartbeats 2000000 in
theorem catch_stop (a b e : Nat) (hab : a ≠ b) (hae : a ≠ e) (hbe : b ≠ e) (pos en : Int) (older : List PanicEntry) (w : World) (x y z : Int) (ha : w.heap[a]? = some (.cells #[.int .i64 x] 3 (0, 0))) (hb : w.heap[b]? = some (.cells #[.int .i64 y] 3 (0, 0)))
    (he : w.heap[e]? = some (.cells #[.int .i64 z] 26 (0, 0))) :
    CallsD Tryz.prog 55 #[.pointer (some ⟨a, 0, none⟩), .pointer (some ⟨b, 0, none⟩), .pointer (some ⟨e, 0, none⟩)]
      (.panicking ({ v := .iface 101 (.agg #[.int .i64 en, .int .i64 pos]), recovered := false } :: older)) w fun r u' w' =>
        r = .returned (.tuple #[]) ∧ u' = .panicking ({ v := .iface 101 (.agg #[.int .i64 en, .int .i64 pos]), recovered := true } :: older) ∧ Caught w w' a b e pos en := by
  have ca : w.cell? ⟨a, 0, none⟩ = some (.int .i64 x) := by simp [World.cell?, ha]
  have cb : w.cell? ⟨b, 0, none⟩ = some (.int .i64 y) := by simp [World.cell?, hb]
  have ce : w.cell? ⟨e, 0, none⟩ = some (.int .i64 z) := by simp [World.cell?, he]
  have fa : w.frozen? ⟨a, 0, none⟩ = false := by simp [World.frozen?, ha]
  have fb : w.frozen? ⟨b, 0, none⟩ = false := by simp [World.frozen?, hb]
  have fe : w.frozen? ⟨e, 0, none⟩ = false := by simp [World.frozen?, he]
  have la : a < w.heap.size := (Array.getElem?_eq_some_iff.1 ha).1
  have lb : b < w.heap.size := (Array.getElem?_eq_some_iff.1 hb).1
  have le : e < w.heap.size := (Array.getElem?_eq_some_iff.1 he).1
  refine callsD_of_wpS Tryz.func55 rfl fun c₀ cs hu => ?_
  apply wpS_seq
  apply wpS_region
  simp [wpOpsS, go_sem, recoverD, hu, Tryz.ntmps55, Exit.thenS]
  refine wpS_of_wp ?_
  have et : (#[Value.pointer (some ⟨a, 0, none⟩), .pointer (some ⟨b, 0, none⟩), .pointer (some ⟨e, 0, none⟩)] ++ (Array.replicate 13 undef).setIfInBounds 3 (Value.iface 101 (.agg #[.int .i64 en, .int .i64 pos])) : Array Value) =
      #[.pointer (some ⟨a, 0, none⟩), .pointer (some ⟨b, 0, none⟩), .pointer (some ⟨e, 0, none⟩), undef, undef, undef, .iface 101 (.agg #[.int .i64 en, .int .i64 pos]), undef, undef, undef, undef, undef, undef, undef, undef, undef] := by rfl
  rw [et]
  go_wp2
  have n0 : ∀ (o : Obj) (k : Nat), k < w.heap.size → (w.alloc o).heap[k]? = w.heap[k]? := fun o k hk => ((Below.refl w.heap.size w).alloc (Nat.le_refl _) o).block k hk
  have hs : (w.alloc (.cells #[.int .i64 en, .int .i64 pos] 101)).heap[w.heap.size]? = some (.cells #[.int .i64 en, .int .i64 pos] 101 (0, 0)) := heap_alloc_new w _
  have ba : (w.alloc (.cells #[.int .i64 en, .int .i64 pos] 101)).heap[a]? = some (.cells #[.int .i64 x] 3 (0, 0)) := (n0 _ a la).trans ha
  have bb : (w.alloc (.cells #[.int .i64 en, .int .i64 pos] 101)).heap[b]? = some (.cells #[.int .i64 y] 3 (0, 0)) := (n0 _ b lb).trans hb
  have be : (w.alloc (.cells #[.int .i64 en, .int .i64 pos] 101)).heap[e]? = some (.cells #[.int .i64 z] 26 (0, 0)) := (n0 _ e le).trans he
  have bl : Below w.heap.size w (w.alloc (.cells #[.int .i64 en, .int .i64 pos] 101)) := (Below.refl _ _).alloc (Nat.le_refl _) _
  have hsz : (w.alloc (.cells #[.int .i64 en, .int .i64 pos] 101)).heap.size = w.heap.size + 1 := Array.size_push ..
  generalize w.alloc (.cells #[.int .i64 en, .int .i64 pos] 101) = v at hs ba bb be bl hsz ⊢
  clear ca cb ce fa fb fe ha hb he n0 et
  have ca : v.cell? ⟨a, 0, none⟩ = some (.int .i64 x) := by simp [World.cell?, ba]
  have cb : v.cell? ⟨b, 0, none⟩ = some (.int .i64 y) := by simp [World.cell?, bb]
  have ce : v.cell? ⟨e, 0, none⟩ = some (.int .i64 z) := by simp [World.cell?, be]
  have fa : v.frozen? ⟨a, 0, none⟩ = false := by simp [World.frozen?, ba]
  have fb : v.frozen? ⟨b, 0, none⟩ = false := by simp [World.frozen?, bb]
  have fe : v.frozen? ⟨e, 0, none⟩ = false := by simp [World.frozen?, be]
  have s0 : v.cell? ⟨w.heap.size, 0, none⟩ = some (.int .i64 en) := by simp [World.cell?, hs]
  have s1 : v.cell? ⟨w.heap.size, 1, none⟩ = some (.int .i64 pos) := by simp [World.cell?, hs]
  have na : ¬ w.heap.size = a := by omega
  have nb : ¬ w.heap.size = b := by omega
  have ne : ¬ w.heap.size = e := by omega
  have na' : ¬ a = w.heap.size := by omega
  have nb' : ¬ b = w.heap.size := by omega
  have ne' : ¬ e = w.heap.size := by omega
  have hab' : ¬ b = a := fun e => hab e.symm
  have hae' : ¬ e = a := fun e => hae e.symm
  have hbe' : ¬ e = b := fun e => hbe e.symm
  go_region
  have o1 : ∀ (v : World) (k j : Nat) (x : Value), k ≠ j → (v.setCell ⟨j, 0, none⟩ x).heap[k]? = v.heap[k]? := fun v k j x h => Below.heap_setCell v ⟨j, 0, none⟩ x k h
  have hfin : Caught w (((v.setCell ⟨a, 0, none⟩ (.int .i64 0)).setCell ⟨b, 0, none⟩ (.int .i64 pos)).setCell ⟨e, 0, none⟩ (.int .i64 en)).drew a b e pos en := by
    refine ⟨bl.os, bl.tape, bl.output, ?_, fun k hk h1 h2 h3 => ?_, ?_, ?_, ?_⟩
    · have := bl.size; simpa [World.setCell, World.drew] using this
    · exact (o1 _ k e _ h3).trans ((o1 _ k b _ h2).trans ((o1 _ k a _ h1).trans (bl.block k hk)))
    · have h1 := (o1 _ a e (.int .i64 en) hae).trans ((o1 _ a b (.int .i64 pos) hab).trans (heap_set (o := 0) (v := .int .i64 0) ba))
      exact (World.cell?_of_block (a := ⟨a, 0, none⟩) (w' := (((v.setCell ⟨a, 0, none⟩ (.int .i64 0)).setCell ⟨b, 0, none⟩ (.int .i64 pos)).setCell ⟨e, 0, none⟩ (.int .i64 en))) (w := (((v.setCell ⟨a, 0, none⟩ (.int .i64 0)).setCell ⟨b, 0, none⟩ (.int .i64 pos)).setCell ⟨e, 0, none⟩ (.int .i64 en)).drew) rfl).symm.trans (by simp only [World.cell?, h1]; rfl)
    · have h1 := (o1 _ b e (.int .i64 en) hbe).trans (heap_set (w := v.setCell ⟨a, 0, none⟩ (.int .i64 0)) (o := 0) (v := .int .i64 pos) ((o1 _ b a _ hab').trans bb))
      exact (World.cell?_of_block (a := ⟨b, 0, none⟩) (w' := (((v.setCell ⟨a, 0, none⟩ (.int .i64 0)).setCell ⟨b, 0, none⟩ (.int .i64 pos)).setCell ⟨e, 0, none⟩ (.int .i64 en))) (w := (((v.setCell ⟨a, 0, none⟩ (.int .i64 0)).setCell ⟨b, 0, none⟩ (.int .i64 pos)).setCell ⟨e, 0, none⟩ (.int .i64 en)).drew) rfl).symm.trans (by simp only [World.cell?, h1]; rfl)
    · have h1 := heap_set (w := (v.setCell ⟨a, 0, none⟩ (.int .i64 0)).setCell ⟨b, 0, none⟩ (.int .i64 pos)) (o := 0) (v := .int .i64 en) ((o1 _ e b _ hbe').trans ((o1 _ e a _ hae').trans be))
      exact (World.cell?_of_block (a := ⟨e, 0, none⟩) (w' := (((v.setCell ⟨a, 0, none⟩ (.int .i64 0)).setCell ⟨b, 0, none⟩ (.int .i64 pos)).setCell ⟨e, 0, none⟩ (.int .i64 en))) (w := (((v.setCell ⟨a, 0, none⟩ (.int .i64 0)).setCell ⟨b, 0, none⟩ (.int .i64 pos)).setCell ⟨e, 0, none⟩ (.int .i64 en)).drew) rfl).symm.trans (by simp only [World.cell?, h1]; rfl)
  generalize (((v.setCell ⟨a, 0, none⟩ (.int .i64 0)).setCell ⟨b, 0, none⟩ (.int .i64 pos)).setCell ⟨e, 0, none⟩ (.int .i64 en)).drew = vf at hfin ⊢
  unfold Exit.inBlock
  cases c₀
  refine And.intro rfl ⟨_, rfl, _, ?_, rfl, rfl, hfin⟩
  simp [results, Tryz.results55]

end Go.Proofs.YtgdamcmfdhhheaaGreatDoor

/- The parser's script: all of the tokens; a panic is caught. -/
namespace Go.Proofs.YtgdamcmfdhhheaaGreatDoor
open Go.RowKit Bf

/-- The three named results. -/
structure Trio (c : Cx) (w : World) (s : St) (B : Nat) : Prop where
  a : w.heap[B]? = some (.cells #[.int .i64 0] 3 (0, 0))
  b : w.heap[B + 1]? = some (.cells #[.int .i64 0] 3 (0, 0))
  e : w.heap[B + 2]? = some (.cells #[.int .i64 0] 26 (0, 0))
  free : ∀ k, B ≤ k → k < B + 3 → ¬ Own c s k

section
variable {c : Cx} {w wi wj : World} {s si sj : St} {B : Nat}
theorem Trio.lt (h : Trio c wi si B) : B + 2 < wi.heap.size := (Array.getElem?_eq_some_iff.1 h.e).1
theorem Trio.fr (h : Trio c wi si B) (hf : Fr c wi si wj sj) : Trio c wj sj B := by
  have := h.lt
  refine ⟨(hf.block _ (by omega) (h.free _ (by omega) (by omega))).trans h.a, (hf.block _ (by omega) (h.free _ (by omega) (by omega))).trans h.b, (hf.block _ (by omega) (h.free _ (by omega) (by omega))).trans h.e, fun k h1 h2 ho => ?_⟩
  rcases hf.own k ho with h3 | h3
  · exact h.free k h1 h2 h3
  · omega
theorem Trio.below (h : Trio c wi si B) (hb : Below wi.heap.size wi wj) : Trio c wj si B := by
  have := h.lt
  exact ⟨(hb.block _ (by omega)).trans h.a, (hb.block _ (by omega)).trans h.b, (hb.block _ (by omega)).trans h.e, h.free⟩
theorem Trio.grown (h : Trio c wi si B) {row : Option Nat} (hg : wi.grownBy wj row) (hr : ∀ k, row = some k → k < B ∨ B + 3 ≤ k) : Trio c wj si B := by
  have := h.lt
  have hn : ∀ k, B ≤ k → k < B + 3 → wj.heap[k]? = wi.heap[k]? := fun k h1 h2 => hg.block k (by omega) (fun e => by have := hr k e.symm; omega)
  exact ⟨(hn _ (by omega) (by omega)).trans h.a, (hn _ (by omega) (by omega)).trans h.b, (hn _ (by omega) (by omega)).trans h.e, h.free⟩
theorem Trio.kept {kv : Value} (h : Trio c wi si B) (hp : Kept c wi si kv wj sj) (hk : ∀ k, kv.ownBlock = some k → k < B ∨ B + 3 ≤ k) : Trio c wj sj B := by
  have := h.lt
  have hn : ∀ k, B ≤ k → k < B + 3 → wj.heap[k]? = wi.heap[k]? := fun k h1 h2 => hp.block k (by omega) (h.free k h1 h2)
  refine ⟨(hn _ (by omega) (by omega)).trans h.a, (hn _ (by omega) (by omega)).trans h.b, (hn _ (by omega) (by omega)).trans h.e, fun k h1 h2 ho => ?_⟩
  rcases hp.own k ho with h3 | h3 | h3
  · exact h.free k h1 h2 h3
  · omega
  · have := hk k h3; omega
end

structure Scripted (c : Cx) (w : World) (s : St) (w' : World) (t : T) (k : Nat) : Prop where
  ex : ∃ s', PS c w' s' ∧ Fr c w s w' s' ∧ Rep s'.ns k t ∧ s'.ns.length = t.size

def PostS (c : Cx) (w : World) (s : St) (r : Res (List T)) (e : Ending) (w' : World) : Prop :=
  match r with
  | .ok ts _ => ∃ k, e = .returned (.tuple #[.int .i64 (k : Nat), .int .i64 0, .int .i64 0]) ∧ Scripted c w s w' (.node 1 (hd c.toks).pos [] 0 ts) k
  | .err en p => e = .returned (.tuple #[.int .i64 0, .int .i64 p, .int .i64 en]) ∧ ∃ s', PS c w' s' ∧ Fr c w s w' s'
  | .out => False

theorem grownBy_setCell (w : World) (B o : Nat) (v : Value) : w.grownBy (w.setCell ⟨B, o, none⟩ v) (some B) :=
  ⟨rfl, rfl, rfl, by simp [World.setCell], fun k _ hk => Below.heap_setCell w ⟨B, o, none⟩ v k (fun e => hk (by rw [e]))⟩

theorem _root_.Bf.PS.setFree {c : Cx} {w : World} {s : St} (h : PS c w s) {B : Nat} (hB : ¬ Own c s B) (hb : c.bp ≤ B) (o : Nat) (v : Value) : PS c (w.setCell ⟨B, o, none⟩ v) s :=
  h.grown (grownBy_setCell w B o v) (by rintro k ⟨⟩; exact ⟨hB, hb⟩)

theorem _root_.Bf.Fr.setFree {c : Cx} {w0 w : World} {s0 s : St} (h : Fr c w0 s0 w s) {B : Nat} (hb : w0.heap.size ≤ B) (o : Nat) (v : Value) : Fr c w0 s0 (w.setCell ⟨B, o, none⟩ v) s :=
  h.grown (grownBy_setCell w B o v) (by rintro k ⟨⟩; exact hb)

set_option maxRecDepth 100000 in
set_option maxHeartbeats 4000000 in
theorem script_calls (n : Nat) {c : Cx} {w : World} {s : St} (h : PS c w s) (hi0 : s.i = 0) (hlv : s.lv = ((0 : Nat) : Int)) (hns : s.ns = []) (hne : pRun n (.stmts 0 true) c.toks ≠ .out) :
    Calls Tryz.prog 31 #[.pointer (some ⟨c.bp, 0, none⟩)] w (PostS c w s (pRun n (.stmts 0 true) c.toks)) := by
  have HN : Hid (pRun n (.stmts 0 true) c.toks ≠ .out) := hne
  have HL : Hid (s.lv = ((0 : Nat) : Int)) := hlv
  have ih := all n
  clear hne hlv
  obtain ⟨i0, hi0', hz0, hz1, hz2⟩ := info_parts Tryz.infoInt
  have m0 := Mid.start h (show c.toks.drop s.i = c.toks by rw [hi0]; rfl)
  have hmf : ∀ (fn : Fn) (first cap : Array Value) (w : World), (Instr.makeFunc fn first cap).run Tryz.prog w = .ok (.func fn first cap) w := fun _ _ _ _ => rfl
  go_enter_defers Tryz.func31, Tryz.ntmps31
  go_wp2_with fail
  have b1 : Below w.heap.size w (((w.alloc (.cells #[.int .i64 0] 3)).alloc (.cells #[.int .i64 0] 3)).alloc (.cells #[.int .i64 0] 26)) := (((Below.refl _ _).alloc (Nat.le_refl _) _).alloc (by simp) _).alloc (by simp; omega) _
  have q0 : (w.alloc (.cells #[.int .i64 0] 3)).heap[w.heap.size]? = some (.cells #[.int .i64 0] 3 (0, 0)) := heap_alloc_new w _
  have q1 : ((w.alloc (.cells #[.int .i64 0] 3)).alloc (.cells #[.int .i64 0] 3)).heap[w.heap.size + 1]? = some (.cells #[.int .i64 0] 3 (0, 0)) := by
    have := heap_alloc_new (w.alloc (.cells #[.int .i64 0] 3)) (.cells #[.int .i64 0] 3)
    simpa using this
  have q2 : (((w.alloc (.cells #[.int .i64 0] 3)).alloc (.cells #[.int .i64 0] 3)).alloc (.cells #[.int .i64 0] 26)).heap[w.heap.size + 2]? = some (.cells #[.int .i64 0] 26 (0, 0)) := by
    have := heap_alloc_new ((w.alloc (.cells #[.int .i64 0] 3)).alloc (.cells #[.int .i64 0] 3)) (.cells #[.int .i64 0] 26)
    simpa using this
  have old : ∀ (v : World) (o : Obj) (k : Nat), k < v.heap.size → (v.alloc o).heap[k]? = v.heap[k]? := fun v o k hk => ((Below.refl v.heap.size v).alloc (Nat.le_refl _) o).block k hk
  have tr : Trio c (((w.alloc (.cells #[.int .i64 0] 3)).alloc (.cells #[.int .i64 0] 3)).alloc (.cells #[.int .i64 0] 26)) s w.heap.size :=
    ⟨(old _ _ _ (by simp; omega)).trans ((old _ _ _ (by simp)).trans q0), (old _ _ _ (by simp)).trans q1, q2, fun k h1 _ ho => by have := (h.own_ge ho).2; omega⟩
  have m1 := Mid.start (h.below b1) m0.rem
  have f1 : Fr c w s (((w.alloc (.cells #[.int .i64 0] 3)).alloc (.cells #[.int .i64 0] 3)).alloc (.cells #[.int .i64 0] 26)) s := (Fr.refl c w s).below b1
  have z1 : (((w.alloc (.cells #[.int .i64 0] 3)).alloc (.cells #[.int .i64 0] 3)).alloc (.cells #[.int .i64 0] 26)).heap.size = w.heap.size + 3 := by simp
  clear q0 q1 q2 old b1 m0
  generalize (((w.alloc (.cells #[.int .i64 0] 3)).alloc (.cells #[.int .i64 0] 3)).alloc (.cells #[.int .i64 0] 26)) = w1 at m1 tr f1 z1 ⊢
  go_loopg [5] n (fun m u wr => ∃ kv si TS KS Ri d, kv = u ∧ Mid c w1 s wr si Ri TS KS d ∧ Lst c w1 wr si kv KS ∧ Stmts n 0 true c.toks m TS Ri ∧ Trio c wr si w.heap.size)
  case atStart => exact ⟨_, _, _, _, _, _, rfl, m1, Lst.nil, Stmts.start n 0 true c.toks, tr⟩
  case round =>
    obtain ⟨kv, si, TS, KS, Ri, d, rfl, m3, l3, q3, t3⟩ := hrel
    clear m1 tr
    obtain ⟨m, rfl⟩ := q3.pos HN.out
    have h0 := m3.ps.c0
    have h1 := m3.ps.c1
    have hbp := m3.ps.bp_lt
    have hbl := m3.ps.bl_lt
    have hi := m3.ps.i
    have hlen := m3.ps.len
    have t0 := m3.ps.t0 m3.rem
    by_cases hk : ((hd Ri).kind == 0) = true
    case pos =>
      have hka : (((hd Ri).kind : Int) == 0) = true := by rw [← hk]; exact beqK _ 0
      have hkc : (((hd Ri).kind : Int) != 0) = false := by simp only [bne, hka]; rfl
      go_wp2
      go_region
      have hq := hidden (q3.stop (by simpa using hk))
      have m4 := m3.below ((Below.refl _ _).drew)
      have l4 := l3.below ((Below.refl _ _).drew)
      have t4 := t3.below ((Below.refl _ _).drew)
      clear h0 h1 hbp hbl hi hlen t0 m3 l3 t3 q3
      generalize wr.drew = w4 at m4 l4 t4 ⊢
      have h0 := m4.ps.c0
      have hbp := m4.ps.bp_lt
      have hbl := m4.ps.bl_lt
      have hi := m4.ps.i
      have hlen := m4.ps.len
      have hpos : 0 < c.toks.length := by omega
      have e0 : c.toks[0]? = some (hd c.toks) := rem_eq hpos rfl
      have tk : w4.cell? ⟨c.bl, 1, none⟩ = some (.int .i64 (hd c.toks).pos) := by
        have := m4.ps.tok 0 _ e0 1 _ rfl
        simpa using this
      have hused := m4.af.used
      have hsize := m4.af.size
      have hroom : si.ns.length + 1 ≤ si.i + 1 := by rw [hsize, hns]; simp; omega
      have hnb : ∀ k, kv.ownBlock = some k → k < w.heap.size ∨ w.heap.size + 3 ≤ k := fun k e => by have := (l4.new k e).2.1; omega
      go_wp2_with fail
      refine (node_calls m4.ps 1 (hd c.toks).pos [] KS kv l4.row (fun k e => ⟨(l4.new k e).1, Nat.le_of_lt (l4.new k e).2.2⟩) hroom m4.kids_le).mono ?_
      rintro e w5 ⟨rfl, nv, hp⟩
      have t5 := t4.kept hp.kept hnb
      have f5 := f1.trans (m4.fr.push hp (fun k e => (l4.new k e).2.1))
      have p5 := hp.ps
      have r5 : Rep (si.push ⟨1, (hd c.toks).pos, [], 0, KS⟩ nv kv).ns si.ns.length (.node 1 (hd c.toks).pos [] 0 TS) := Rep.push m4.rp ..
      have n5 : (si.push ⟨1, (hd c.toks).pos, [], 0, KS⟩ nv kv).ns.length = (T.node 1 (hd c.toks).pos [] 0 TS).size := by simp [St.push, hsize, hns, T.size]
      clear m4 l4 t4 h0 hbp hbl hi hlen hpos e0 tk hused hsize hroom hnb hp
      generalize si.push ⟨1, (hd c.toks).pos, [], 0, KS⟩ nv kv = s5 at p5 f5 r5 n5 t5
      have ba := t5.a
      have bb := t5.b
      have be := t5.e
      have ca : w5.cell? ⟨w.heap.size, 0, none⟩ = some (.int .i64 0) := by simp [World.cell?, ba]
      have cb : w5.cell? ⟨w.heap.size + 1, 0, none⟩ = some (.int .i64 0) := by simp [World.cell?, bb]
      have ce : w5.cell? ⟨w.heap.size + 1 + 1, 0, none⟩ = some (.int .i64 0) := by simp [World.cell?, be]
      have fa : w5.frozen? ⟨w.heap.size, 0, none⟩ = false := by simp [World.frozen?, ba]
      have fb : w5.frozen? ⟨w.heap.size + 1, 0, none⟩ = false := by simp [World.frozen?, bb]
      have fe : w5.frozen? ⟨w.heap.size + 1 + 1, 0, none⟩ = false := by simp [World.frozen?, be]
      go_wp2_with fail
      have w0 : w.heap.size < w5.heap.size := by have := t5.lt; omega
      have o1 : ∀ (v : World) (k j : Nat) (x : Value), k ≠ j → (v.setCell ⟨j, 0, none⟩ x).heap[k]? = v.heap[k]? := fun v k j x h => Below.heap_setCell v ⟨j, 0, none⟩ x k h
      have g1 := fun x => t5.free w.heap.size (by omega) (by omega) x
      have g2 := fun x => t5.free (w.heap.size + 1) (by omega) (by omega) x
      have g3 := fun x => t5.free (w.heap.size + 1 + 1) (by omega) (by omega) x
      have hbw := h.bp_lt
      have p6 := ((p5.setFree g1 (by omega) 0 (.int .i64 (si.ns.length : Nat))).setFree g2 (by omega) 0 (.int .i64 0)).setFree g3 (by omega) 0 (.int .i64 0)
      have f6 := ((f5.setFree (Nat.le_refl _) 0 (.int .i64 (si.ns.length : Nat))).setFree (B := w.heap.size + 1) (by omega) 0 (.int .i64 0)).setFree (B := w.heap.size + 1 + 1) (by omega) 0 (.int .i64 0)
      have h1 := (o1 _ w.heap.size (w.heap.size + 1 + 1) (.int .i64 0) (by omega)).trans ((o1 _ w.heap.size (w.heap.size + 1) (.int .i64 0) (by omega)).trans (heap_set (o := 0) (v := .int .i64 (si.ns.length : Nat)) ba))
      have h2 := (o1 _ (w.heap.size + 1) (w.heap.size + 1 + 1) (.int .i64 0) (by omega)).trans (heap_set (w := w5.setCell ⟨w.heap.size, 0, none⟩ (.int .i64 (si.ns.length : Nat))) (o := 0) (v := .int .i64 0) ((o1 _ (w.heap.size + 1) w.heap.size _ (by omega)).trans bb))
      have h3 := heap_set (w := (w5.setCell ⟨w.heap.size, 0, none⟩ (.int .i64 (si.ns.length : Nat))).setCell ⟨w.heap.size + 1, 0, none⟩ (.int .i64 0)) (o := 0) (v := .int .i64 0) ((o1 _ (w.heap.size + 1 + 1) (w.heap.size + 1) _ (by omega)).trans ((o1 _ (w.heap.size + 1 + 1) w.heap.size _ (by omega)).trans be))
      clear ca cb ce fa fb fe ba bb be o1 g1 g2 g3
      generalize ((w5.setCell ⟨w.heap.size, 0, none⟩ (.int .i64 (si.ns.length : Nat))).setCell ⟨w.heap.size + 1, 0, none⟩ (.int .i64 0)).setCell ⟨w.heap.size + 1 + 1, 0, none⟩ (.int .i64 0) = w6 at p6 f6 h1 h2 h3 ⊢
      have ca : w6.cell? ⟨w.heap.size, 0, none⟩ = some (.int .i64 (si.ns.length : Nat)) := by simp only [World.cell?, h1]; rfl
      have cb : w6.cell? ⟨w.heap.size + 1, 0, none⟩ = some (.int .i64 0) := by simp only [World.cell?, h2]; rfl
      have ce : w6.cell? ⟨w.heap.size + 1 + 1, 0, none⟩ = some (.int .i64 0) := by simp only [World.cell?, h3]; rfl
      change Leaves _ _ _ _ [_] FrameMode.returning _
      refine leaves_cons (f := 55) (args := #[.pointer (some ⟨w.heap.size, 0, none⟩), .pointer (some ⟨w.heap.size + 1, 0, none⟩), .pointer (some ⟨w.heap.size + 1 + 1, 0, none⟩)]) (by simp) (by simp [go_sem]) ?_
      refine (catch_idle _ _ _ w6).mono ?_
      rintro e u' w7 ⟨rfl, rfl, rfl⟩
      rw [hq.out]
      simp [Leaves, settle, results, Tryz.results31, go_sem, ca, cb, ce]
      exact ⟨_, rfl, ⟨_, p6, f6, r5, n5⟩⟩
    case neg =>
      have hkn : ((hd Ri).kind == 0) = false := by simpa using hk
      have hka : (((hd Ri).kind : Int) == 0) = false := by rw [← hkn]; exact beqK _ 0
      have hkc : (((hd Ri).kind : Int) != 0) = true := by simp only [bne, hka]; rfl
      go_wp2
      go_region
      have hend' : (if true then (hd Ri).kind == 0 else isTok (hd Ri) [125]) = false := by simpa using hkn
      obtain ⟨hne, herr, hok⟩ := q3.go HN.out hend'
      have m4 := m3.below ((Below.refl _ _).drew)
      have l4 := l3.below ((Below.refl _ _).drew)
      have t4 := t3.below ((Below.refl _ _).drew)
      clear h0 h1 hbp hbl hi hlen t0 m3 l3 t3 q3
      generalize wr.drew = w4 at m4 l4 t4 ⊢
      go_wp2_with fail
      refine (ih.stmt c w4 si Ri 0 m4.ps m4.rem (m4.lv HL.out) (by omega) hne).mono ?_
      rintro e w5 hpost
      cases hc : pRun n (.stmt 0) Ri with
      | out => exact absurd hc hne
      | err en p =>
        rw [hc] at hpost
        have t5 := hpost.2
        obtain ⟨rfl, s5, hp5, hf5⟩ := hpost
        have t6 := t4.fr hf5
        rw [herr _ _ hc]
        have f6 := f1.trans (m4.fr.trans hf5)
        clear m4 l4 t4 hok herr hc hf5 t5
        change Leaves _ _ _ _ [_] (FrameMode.panicking (stopV en p)) _
        refine leaves_cons (f := 55) (args := #[.pointer (some ⟨w.heap.size, 0, none⟩), .pointer (some ⟨w.heap.size + 1, 0, none⟩), .pointer (some ⟨w.heap.size + 1 + 1, 0, none⟩)]) (by simp) (by simp [go_sem]) ?_
        refine (catch_stop _ _ _ (by omega) (by omega) (by omega) p en [] w5 0 0 0 t6.a t6.b t6.e).mono ?_
        rintro e u' w6 ⟨rfl, rfl, hcgt⟩
        have hca := hcgt.ca
        have hcb := hcgt.cb
        have hce := hcgt.ce
        simp [Leaves, settle, results, Tryz.results31, go_sem, hca, hcb, hce]
        have hbw := h.bp_lt
        refine ⟨rfl, s5, hp5.keep fun k hk => hcgt.block k ?_ ?_ ?_ ?_, ⟨hcgt.os.trans f6.os, hcgt.tape.trans f6.tape, hcgt.output.trans f6.output, Nat.le_trans f6.size hcgt.size, fun k hk hn => (hcgt.block k (Nat.lt_of_lt_of_le hk f6.size) (by omega) (by omega) (by omega)).trans (f6.block k hk hn), f6.own⟩⟩
        · rcases hk with hk | rfl
          · exact (hp5.own_ge hk).2
          · exact hp5.bl_lt
        · rintro rfl
          rcases hk with hk | hk
          · exact t6.free _ (by omega) (by omega) hk
          · have := h.bl; omega
        · rintro rfl
          rcases hk with hk | hk
          · exact t6.free _ (by omega) (by omega) hk
          · have := h.bl; omega
        · rintro rfl
          rcases hk with hk | hk
          · exact t6.free _ (by omega) (by omega) hk
          · have := h.bl; omega
      | ok ts R' =>
        rw [hc] at hpost
        obtain ⟨sj, k, t, rfl, rfl, m5⟩ := hpost
        have l5 := l4.fr m5.fr
        have t5 := t4.fr m5.fr
        have m6 := m4.call m5
        have hst := hok _ _ hc
        have hbase := m6.ps.bp_lt
        have hkl : KS.length + 1 ≤ 16385 := by have := m6.kids_le; simpa using this
        have hrow := l5.row
        have hnb : ∀ k, kv.ownBlock = some k → k < w.heap.size ∨ w.heap.size + 3 ≤ k := fun k e => by have := (l5.new k e).2.1; omega
        clear m4 l4 m5 hc herr hok hne t4
        go_wp2_with (at_builtin; refine wpList_append_lies _ rfl _ _ 30 rfl (c.bp + 1) 3 i0 _ 1 8 Tryz.underlying30 hi0' hz0 hz1 hz2 rfl (by decide) kv KS.length (ints KS) rfl (World.ownsRow.alloc hrow _) ⟨w5.heap.size, 0, none⟩ 1 1 [.int .i64 k] rfl rfl ?c1 ?c2 ?c3 ?c4 ?c5 ?c6 (w5.heap.size + 1) ?c7 ?_)
        case c1 => exact World.news_of_block (cs := #[.int .i64 k]) (t := 3) (fr := (0, 0)) (heap_alloc_new w5 _)
        case c2 => simp [Value.oneCell']
        case c3 => decide
        case c4 => unfold maxLen; omega
        case c5 => omega
        case c6 => simp; omega
        case c7 => simp
        intro g cap w6 hown hgrow hat hlt
        have t6 := t5.grown (grownBy_trans (World.grownBy_alloc w5 _ none) hgrow) hnb
        obtain ⟨m7, l7⟩ := m6.append l5 (World.grownBy_alloc w5 _ none) hgrow hown (hat.imp id (by omega))
        clear hown hgrow hat hlt hrow m6 l5 hbase hkl t5
        go_wp2_with fail
        go_roundg m
        case measure => omega
        case rel => exact ⟨_, _, _, _, _, _, rfl, m7, l7, hst, t6⟩

end Go.Proofs.YtgdamcmfdhhheaaGreatDoor

/- The closure that numbers a tree's nodes as one goes through, walked. -/
namespace Go.Proofs.YtgdamcmfdhhheaaGreatDoor
open Go.RowKit Bf

theorem RepL_split {ns : List NodeA} : ∀ {dk : List Nat} {dn : List T} {rk : List Nat} {rest : List T} {k : Nat} {t : T}, RepL ns (dk ++ k :: rk) (dn ++ t :: rest) → dk.length = dn.length → Rep ns k t ∧ RepL ns rk rest
  | [], [], _, _, _, _, h, _ => h
  | _ :: _, _ :: _, _, _, _, _, h, hl => RepL_split h.2 (by simpa using hl)
  | [], _ :: _, _, _, _, _, _, hl => by simp at hl
  | _ :: _, [], _, _, _, _, _, hl => by simp at hl

set_option maxRecDepth 100000 in
set_option maxHeartbeats 4000000 in
theorem walk_calls (x : Tx) (m : Nat) : ∀ t : T, t.size ≤ m → ∀ (w : World) (s : St) (k : Nat) (outv : Value) (os : List NodeA) (kvs : List Value), TB x w s → TO x w outv os kvs → Rep s.ns k t → os.length + t.size ≤ 16385 →
    Calls Tryz.prog 32 #[.int .i64 k, .pointer (some ⟨x.pb, 0, none⟩), .pointer (some ⟨x.ob, 0, none⟩), .pointer (some ⟨x.wb, 0, none⟩)] w fun e w' =>
      e = .returned (.tuple #[]) ∧ ∃ outv' kvs', TB x w' s ∧ TO x w' outv' (os ++ flat os.length t) (kvs ++ kvs') ∧ Wk x w outv (flat os.length t) w' outv' kvs' := by
  induction m with
  | zero => intro t ht; cases t; simp [T.size] at ht
  | succ m ih =>
    intro t ht w s k outv os kvs hb ho hr hsz
    have HI := hidden ih
    clear ih
    obtain ⟨kind, pos, text, num, ts⟩ := t
    obtain ⟨ks, h1, hrl⟩ := hr
    have HB := hidden hb
    have HO := hidden ho
    have HR := hidden hrl
    have hsz1 : os.length + 1 ≤ 16385 := by simp [T.size] at hsz; omega
    have HZ := hidden hsz
    have HT := hidden ht
    obtain ⟨i0, hi0, hz0, hz1, hz2⟩ := info_parts Tryz.infoNode
    obtain ⟨j0, hj0, hy0, hy1, hy2⟩ := info_parts Tryz.infoInt
    obtain ⟨g, cap, kv0, hnv, hk, hcap, hkv, hrow, hksl, hgl, d0, d1, d2, d3, d4⟩ := hb.ps.node_cells h1
    obtain ⟨oa, oc, rfl⟩ := ho.form
    obtain ⟨ka, kl, kc, rfl⟩ := Row.form hrow
    have hB := hb.B
    have hbp : x.c.bp < w.heap.size := by have := hb.bp; omega
    have hpl : x.pb < w.heap.size := by have := hb.pb; omega
    have hol : x.ob < w.heap.size := by have := hb.ob; omega
    have hwl : x.wb < w.heap.size := by have := hb.wb; omega
    have hp0 : w.cell? ⟨x.pb, 0, none⟩ = some (.pointer (some ⟨x.c.bp, 0, none⟩)) := by simp [World.cell?, hb.hp]
    have hc3 := hb.ps.c3
    rw [hnv] at hc3
    have ho0 : w.cell? ⟨x.ob, 0, none⟩ = some (.slice oa os.length oc) := by simp [World.cell?, ho.ho]
    have hof : w.frozen? ⟨x.ob, 0, none⟩ = false := by simp [World.frozen?, ho.ho]
    clear hb ho hrl hsz ht
    go_enter Tryz.func32, Tryz.ntmps32
    have hown := HO.out.out
    have hob : ¬ x.ob = w.heap.size + 1 := by omega
    have hobn : (Value.slice oa os.length oc).ownBlock ≠ some x.ob := fun e => by have := HO.out.ge e; have := HB.out.ob; omega
    have hcells : ((w.alloc (.cells (nodeVals ⟨kind, pos, text, num, ks⟩ (.slice ka kl kc)).toArray 32)).alloc (.cells (nodeVals ⟨kind, pos, text, num, ks⟩ (.slice ka kl kc)).toArray 32)).heap[w.heap.size + 1]? = some (.cells (nodeVals ⟨kind, pos, text, num, ks⟩ (.slice ka kl kc)).toArray 32 (0, 0)) := heap2 w _ _
    have hold : ∀ o1 o2, ((w.alloc o1).alloc o2).heap[x.ob]? = w.heap[x.ob]? := fun o1 o2 => by
      rw [Below.heap_alloc _ _ _ (by simp; omega), Below.heap_alloc _ _ _ hol]
    have hfz : ∀ o1 o2, ((w.alloc o1).alloc o2).frozen? ⟨x.ob, 0, none⟩ = false := fun o1 o2 => (World.frozen?_of_block (w := w) (hold o1 o2)).trans hof
    have hcz : ∀ o1 o2, ((w.alloc o1).alloc o2).cell? ⟨x.ob, 0, none⟩ = some (.slice oa os.length oc) := fun o1 o2 => (World.cell?_of_block (w := w) (hold o1 o2)).trans ho0
    go_wp2_with (at_builtin; refine wpList_append_lies _ rfl _ _ 23 rfl x.B 32 i0 _ 5 64 Tryz.underlying23 hi0 hz0 hz1 hz2 rfl (by decide) (.slice oa os.length oc) os.length (nodeRow os kvs) rfl ((hown.alloc _).alloc _) ⟨w.heap.size + 1, 0, none⟩ 1 1 (nodeVals ⟨kind, pos, text, num, ks⟩ (.slice ka kl kc)) rfl rfl (World.news_of_block hcells) (by simp [nodeVals, Value.oneCell']) (by decide) (by unfold maxLen; omega) (by omega) (by simp; omega) (w.heap.size + 2) (by simp) ?_)
    intro gg gcap w1 hown1 hgrow hat hlt
    have hf1 : w1.frozen? ⟨x.ob, 0, none⟩ = false := by rw [hgrow.frozen_far _ (by simp; omega) (Ne.symm hobn)]; exact hfz _ _
    have hc1 : w1.cell? ⟨x.ob, 0, none⟩ = some (.slice oa os.length oc) := by rw [hgrow.cell_far _ (by simp; omega) (Ne.symm hobn)]; exact hcz _ _
    have hlay := lay_node HB.out HO.out ⟨kind, pos, text, num, starts (os.length + 1) ts⟩ (.slice ka kl kc) (((Below.refl _ _).alloc (Nat.le_refl _) _).alloc (by simp) _) hgrow gg gcap hown1 (hat.imp id (by simp))
    have hnc : (w1.setCell ⟨x.ob, 0, none⟩ (.slice (some ⟨gg, 0, none⟩) (os.length + 1) gcap)).cell? ⟨w.heap.size, 4, none⟩ = some (.slice ka kl kc) := by
      have hne : (Value.slice oa os.length oc).ownBlock ≠ some w.heap.size := fun e => by have := HO.out.ge e; omega
      have e1 : (w1.setCell ⟨x.ob, 0, none⟩ (.slice (some ⟨gg, 0, none⟩) (os.length + 1) gcap)).heap[w.heap.size]? = w1.heap[w.heap.size]? := Below.heap_setCell w1 ⟨x.ob, 0, none⟩ _ _ (by simp; omega)
      rw [World.cell?_of_block (a := ⟨w.heap.size, 4, none⟩) e1, hgrow.cell_far ⟨w.heap.size, 4, none⟩ (by simp; omega) (Ne.symm hne)]
      have e2 : ((w.alloc (.cells (nodeVals ⟨kind, pos, text, num, ks⟩ (.slice ka kl kc)).toArray 32)).alloc (.cells (nodeVals ⟨kind, pos, text, num, ks⟩ (.slice ka kl kc)).toArray 32)).heap[w.heap.size]? = some (.cells (nodeVals ⟨kind, pos, text, num, ks⟩ (.slice ka kl kc)).toArray 32 (0, 0)) := by
        rw [Below.heap_alloc _ _ _ (by simp)]
        exact heap_alloc_new w _
      have e3 : ((w.alloc (.cells (nodeVals ⟨kind, pos, text, num, ks⟩ (.slice ka kl kc)).toArray 32)).alloc (.cells (nodeVals ⟨kind, pos, text, num, ks⟩ (.slice ka kl kc)).toArray 32)).cell? ⟨w.heap.size, 4, none⟩ = some (.slice ka kl kc) := by
        simp only [World.cell?, e2]
        rfl
      exact e3
    have hgx : (w1.setCell ⟨x.ob, 0, none⟩ (.slice (some ⟨gg, 0, none⟩) (os.length + 1) gcap)).heap.size = w1.heap.size := by simp [World.setCell]
    have hsw : w.heap.size < w1.heap.size := by have := hgrow.size; simp at this; omega
    clear hown hcells hold hfz hcz hown1 hgrow hat hp0 hc3 ho0 hof d0 d1 d2 d3 d4
    have hkl : kl = ks.length := by
      rcases hrow.2 with ⟨e, hn⟩ | ⟨_, _, _, e, _⟩
      · cases e; exact hn.symm
      · cases e; rfl
    subst hkl
    go_wp2_with (at_make; refine wpList_make_row _ rfl _ _ _ rfl 3 j0 _ rfl hj0 hy0 hy1 rfl _ _ ks.length rfl rfl (by rw [hy2]; omega) (by omega) ?_)
    generalize (w1.setCell ⟨x.ob, 0, none⟩ (.slice (some ⟨gg, 0, none⟩) (os.length + 1) gcap)) = w2 at *
    obtain ⟨b2, o2, k2⟩ := hlay
    have HB2 := hidden b2
    have HO2 := hidden o2
    have HK2 := hidden k2
    have HW := hidden hrow
    have hkb : (w2.alloc (.cells (madeCells #[.int .i64 0] ks.length) 3)).heap[w2.heap.size]? = some (.cells (List.replicate ts.length (Value.int .i64 0)).toArray 3 (0, 0)) := by
      have e := toList_madeCells_one (.int .i64 0) ks.length
      have e2 : (madeCells #[Value.int .i64 0] ks.length) = (List.replicate ts.length (Value.int .i64 0)).toArray := by
        rw [← RepL.length HR.out, ← e]
      rw [e2]
      exact heap_alloc_new w2 _
    have hst : Wk x w2 (.slice (some ⟨gg, 0, none⟩) (os.length + 1) gcap) [] (w2.alloc (.cells (madeCells #[.int .i64 0] ks.length) 3)) (.slice (some ⟨gg, 0, none⟩) (os.length + 1) gcap) [] :=
      (Wk.refl _ _ _).other (Nat.le_refl _) (World.grownBy_alloc w2 _ _) (by simp)
    have hol2 : x.ob < w2.heap.size := by rw [hgx]; omega
    have hgn : (Value.slice (some ⟨gg, 0, none⟩) (os.length + 1) gcap).ownBlock ≠ some w2.heap.size := fun e => by have := (o2.ge e).2; omega
    have hto := o2.other hol2 (by omega) (World.grownBy_alloc w2 (.cells (madeCells #[.int .i64 0] ks.length) 3) (some w2.heap.size)) hgn
    have H1 := hidden h1
    have HKV := hidden hkv
    clear b2 o2 k2 hrow hsw h1 hnv hk hcap hkv hgl
    generalize hw3 : (w2.alloc (.cells (madeCells #[.int .i64 0] ks.length) 3)) = w3 at *
    clear hnc
    rw [hgx.symm]
    clear hgx
    go_loopg [30] (ts.length + 1) (fun m u wr => ∃ (dn rest : List T) (dk rk : List Nat) (outv' : Value) (kvs' : List Value), Value.int .i64 (dn.length : Nat) = u ∧ ts = dn ++ rest ∧ ks = dk ++ rk ∧ dk.length = dn.length ∧ rest.length + 1 = m ∧
        Wk x w2 (.slice (some ⟨gg, 0, none⟩) (os.length + 1) gcap) (flatL (os.length + 1) dn) wr outv' kvs' ∧
        TO x wr outv' ((os ++ [⟨kind, pos, text, num, starts (os.length + 1) ts⟩]) ++ flatL (os.length + 1) dn) ((kvs ++ [.slice ka ks.length kc]) ++ kvs') ∧
        wr.heap[w2.heap.size]? = some (.cells (ints (starts (os.length + 1) dn) ++ List.replicate rest.length (Value.int .i64 0)).toArray 3 (0, 0)) ∧ (∀ kv : Value, kv ∈ kvs' → kv.ownBlock ≠ some w2.heap.size) ∧ outv'.ownBlock ≠ some w2.heap.size)
    case atStart => exact ⟨[], ts, [], ks, _, [], rfl, rfl, rfl, rfl, rfl, hst, by simpa [flatL] using hto, by simpa [starts, ints] using hkb, by simp, hgn⟩
    case round =>
      clear hst hto hkb hgn
      obtain ⟨dn, rest, dk, rk, outv', kvs', rfl, hts, hks, hdl, hm, hwk, hto, hkb, hkn, hon⟩ := hrel
      have hbr := HB2.out.wk HO2.out hwk
      have hsr := hwk.size
      have holr : x.ob < wr.heap.size := by omega
      have hwlr : x.wb < wr.heap.size := by have := hbr.wb; have := hbr.B; omega
      have hkl : ks.length = ts.length := RepL.length HR.out
      have hlt2 : w2.heap.size < wr.heap.size := (Array.getElem?_eq_some_iff.1 hkb).1
      obtain ⟨g', c', hv', hc'⟩ := hto.put (by simp; omega)
      obtain ⟨N, hN⟩ : ∃ N, N = ((os ++ [(⟨kind, pos, text, num, starts (os.length + 1) ts⟩ : NodeA)]) ++ flatL (os.length + 1) dn).length := ⟨_, rfl⟩
      rw [← hN] at hv' hc'
      have hNe : N = os.length + 1 + sizeL dn := by rw [hN]; simp [flatL_length]; omega
      subst hv'
      have hg'l := hto.ge (k := g') rfl
      have hcob : wr.cell? ⟨x.ob, 0, none⟩ = some (.slice (some ⟨g', 0, none⟩) N c') := by simp [World.cell?, hto.ho]
      have hcwb : wr.cell? ⟨x.wb, 0, none⟩ = some (.func (.func 32) #[] #[.pointer (some ⟨x.pb, 0, none⟩), .pointer (some ⟨x.ob, 0, none⟩), .pointer (some ⟨x.wb, 0, none⟩)]) := by simp [World.cell?, hbr.hw, Tx.fn]
      have hfkb : wr.frozen? ⟨w2.heap.size, dn.length, none⟩ = false := by simp [World.frozen?, hkb]
      have HKB := hidden hkb
      have HTO := hidden hto
      have HWK := hidden hwk
      have HBR := hidden hbr
      have HKN := hidden hkn
      have HON := hidden hon
      have HTS := hidden hts
      have HKS := hidden hks
      have HDL := hidden hdl
      have HNE := hidden hNe
      have HN := hidden hN
      cases rest with
      | nil =>
        have hdk : dn.length = ks.length := by rw [hkl, hts]; simp
        have hl : ((dn.length : Int) < (ks.length : Int)) = False := by simp; omega
        have hmN : ((os.length : Int) < (N : Int)) = True := by simp; omega
        obtain ⟨cv, hfg, hcg⟩ : ∃ cv, wr.frozen? ⟨g', os.length * 5 + 4, none⟩ = false ∧ wr.cell? ⟨g', os.length * 5 + 4, none⟩ = some cv := by
          rcases hto.out.2 with ⟨e, _⟩ | ⟨g2, cap2, cur2, e, _, hg2, _, _, hs2, _⟩
          · cases e
          · cases e
            have hin : os.length * 5 + 4 < cur2.size := by omega
            exact ⟨cur2[os.length * 5 + 4], by simp [World.frozen?, hg2], by simp [World.cell?, hg2, Array.getElem?_eq_getElem hin]⟩
        clear hkb hto hwk hbr hkn hon hts hks hdl hNe hN hdk hkl
        go_wp2_with fail
        go_end0
        refine ⟨rfl, ?_⟩
        have hdn : ts = dn := by have := HTS.out; simpa using this
        have hsz0 : w.heap.size ≤ w2.heap.size := HK2.out.size
        have hwk0 := HK2.out.trans HWK.out hol
        have hto0 := HTO.out
        have hkl := RepL.length HR.out
        rw [← hdn] at hwk0 hto0
        simp only [List.nil_append, List.append_assoc, List.singleton_append] at hwk0 hto0
        have hNn : N = (os ++ (⟨kind, pos, text, num, starts (os.length + 1) ts⟩ : NodeA) :: flatL (os.length + 1) ts).length := by rw [HN.out, ← hdn]; simp
        have hkids : wr.ownsRow w.heap.size 3 1 (.slice (some ⟨w2.heap.size, 0, none⟩) ks.length ks.length) (starts (os.length + 1) ts).length (ints (starts (os.length + 1) ts)) := by
          have hkb := HKB.out
          rw [← hdn] at hkb
          rw [starts_length, ← hkl]
          refine ⟨by simp [ints, starts_length, hkl], .inr ⟨w2.heap.size, ks.length, _, rfl, hsz0, hkb, Nat.le_refl _, by unfold maxLen; omega, by simp [ints, starts_length, hkl], ?_⟩⟩
          simp [ints, starts_length, hkl]
          exact List.take_of_length_le (by simp [starts_length])
        have hng : (Value.slice (some ⟨w2.heap.size, 0, none⟩) ks.length ks.length).ownBlock ≠ some g' := fun e => HON.out (by
          have e1 : w2.heap.size = g' := by simpa [Value.ownBlock] using e
          rw [e1]; rfl)
        have hfin := Wk.hang (os := os) (n := ⟨kind, pos, text, num, starts (os.length + 1) ts⟩) (kv0 := .slice ka ks.length kc) (kv := .slice (some ⟨w2.heap.size, 0, none⟩) ks.length ks.length) (g := g') (cap := c') (by rw [← hNn]) hwk0 hto0 HO.out.kvs HB.out.ob hkids hng
        exact ⟨_, _, HB.out.wk HO.out hfin.2, hfin.1, hfin.2⟩
      | cons t0 rest =>
        cases rk with
        | nil =>
          exfalso
          have : ks.length = dn.length := by rw [hks]; simpa using hdl
          rw [hkl, hts] at this
          simp at this
        | cons k0 rk =>
          have hlt : dn.length < ks.length := by rw [hkl, hts]; simp
          have hl : ((dn.length : Int) < (ks.length : Int)) = True := by simp; omega
          have hrw := hbr.ps.rows _ _ _ H1.out HKV.out
          obtain ⟨gk', hka, hkc⟩ : ∃ gk', ka = some ⟨gk', 0, none⟩ ∧ wr.cell? ⟨gk', dn.length, none⟩ = some (.int .i64 k0) := by
            rcases hrw.2 with ⟨e, hn⟩ | ⟨g2, cap2, cur2, e, _, hg2, _, _, hsz2, ht2⟩
            · have hn' : ks.length = 0 := hn
              omega
            · cases e
              refine ⟨g2, rfl, ?_⟩
              have h3 : (ints ks)[dn.length]? = some (.int .i64 k0) := by
                rw [hks, ← hdl]
                simp [ints]
              rw [← ht2, List.getElem?_take_of_lt (by simpa using hlt)] at h3
              have h4 : cur2[dn.length]? = some (.int .i64 k0) := by simpa using h3
              simp [World.cell?, hg2, h4]
          subst hka
          have hckb : wr.cell? ⟨w2.heap.size, dn.length, none⟩ = some (.int .i64 0) := by
            have e1 : (starts (os.length + 1) dn).length = dn.length := starts_length _ _
            simp [World.cell?, hkb, ints, List.getElem?_append_right, e1]
          clear hkb hto hwk hbr hkn hon hts hks hdl hNe hN hkl hrw
          have n1 : ¬ x.wb = w2.heap.size := by have := HB2.out.wb; have := HB2.out.B; omega
          have n2 : ¬ x.ob = w2.heap.size := by omega
          have n3 : ¬ g' = w2.heap.size := fun e => HON.out (by rw [← e]; rfl)
          go_wp2_with fail
          have hgr : wr.grownBy (wr.setCell ⟨w2.heap.size, dn.length, none⟩ (.int .i64 N)) (some w2.heap.size) := grownBy_setCell wr _ _ _
          have hwk6 := HWK.out.other (Nat.le_refl _) hgr HKN.out
          have hto6 := HTO.out.other holr n2 hgr HON.out
          have hbr6 := HB2.out.wk HO2.out hwk6
          have hkb6 := heap_set (o := dn.length) (v := .int .i64 N) HKB.out
          have hrl : Rep s.ns k0 t0 := by
            have h0 := HR.out
            rw [HTS.out, HKS.out] at h0
            exact (RepL_split h0 HDL.out).1
          have ht0 : t0.size ≤ m := by
            have := HT.out
            rw [HTS.out] at this
            simp [T.size, sizeL_append, sizeL] at this
            omega
          have hz0 : ((os ++ [(⟨kind, pos, text, num, starts (os.length + 1) ts⟩ : NodeA)]) ++ flatL (os.length + 1) dn).length + t0.size ≤ 16385 := by
            have := HZ.out
            rw [← HN.out, HNE.out]
            rw [HTS.out] at this
            simp [T.size, sizeL_append, sizeL] at this
            omega
          have hcall := HI.out t0 ht0 _ s k0 _ _ _ hbr6 hto6 hrl hz0
          have hlt6 : w2.heap.size < (wr.setCell ⟨w2.heap.size, dn.length, none⟩ (.int .i64 N)).heap.size := by simp [World.setCell]; omega
          generalize (wr.setCell ⟨w2.heap.size, dn.length, none⟩ (.int .i64 N)) = w6 at hwk6 hto6 hbr6 hkb6 hcall hlt6 ⊢
          refine hcall.mono ?_
          rintro e w7 ⟨rfl, outv7, kvs7, b7, o7, k7⟩
          clear hcall hfkb hckb hcob hcwb hg'l hkc
          go_wp2
          go_roundg (rest.length + 1)
          case measure =>
            simp at hm
            omega
          case rel =>
            have hfl : flatL (os.length + 1) (dn ++ [t0]) = flatL (os.length + 1) dn ++ flat N t0 := by rw [flatL_append, HNE.out]; simp [flatL]
            have hst : starts (os.length + 1) (dn ++ [t0]) = starts (os.length + 1) dn ++ [N] := by rw [starts_append, HNE.out]; simp [starts]
            rw [← HN.out] at o7 k7
            refine ⟨dn ++ [t0], rest, dk ++ [k0], rk, outv7, kvs' ++ kvs7, by simp, by rw [HTS.out]; simp, by rw [HKS.out]; simp, by simp [HDL.out], rfl, ?_, ?_, ?_, ?_, ?_⟩
            · rw [hfl]; exact hwk6.trans k7 hol2
            · rw [hfl, ← List.append_assoc, ← List.append_assoc]; exact o7
            · rw [k7.block _ hlt6 (Ne.symm n2) HON.out, hkb6, hst]
              have e1 : (starts (os.length + 1) dn).length = dn.length := starts_length _ _
              simp [ints, List.set_append_right, e1, List.replicate_succ]
            · intro kv hm
              rcases List.mem_append.1 hm with hm | hm
              · exact HKN.out kv hm
              · intro e; have := (k7.row hm e).1; omega
            · intro e
              rcases k7.own _ e with e' | e'
              · exact HON.out e'
              · omega

end Go.Proofs.YtgdamcmfdhhheaaGreatDoor
