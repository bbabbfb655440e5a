/- parse.Tree, walked. -/
import Derived.Test.YtgdamcmfdhhheaaGreatDoorMAA
import Derived.Test.YtgdamcmfdhhheaaGreatDoorML3
import Derived.Test.YtgdamcmfdhhheaaGreatDoorMP1
import Derived.Test.YtgdamcmfdhhheaaGreatDoorMT0
import Derived.Deep.LoopGhost
import Derived.KernelRfl
set_option linter.all false

namespace Go.Proofs.YtgdamcmfdhhheaaGreatDoor
open Go.RowKit Bf

def scriptR (toks : List Tok) : Res (List T) := pRun (40 * toks.length + 20) (.stmts 0 true) toks

def rootT (toks : List Tok) (ts : List T) : T := .node 1 (hd toks).pos [] 0 ts

def treeR (toks : List Tok) : Except (Nat × Nat) T :=
  if mayE toks = 0 then
    match scriptR toks with
    | .ok ts _ => if 16384 < (rootT toks ts).size then .error (0, 4) else .ok (rootT toks ts)
    | .err en p => .error (p, en)
    | .out => .error (0, 0)
  else .error (0, 5)

/-- A tree's nodes in memory, made since base. -/
def NodeMem (w : World) (base : Nat) (v : Value) (ns : List NodeA) : Prop :=
  ∃ kvs : List Value, kvs.length = ns.length ∧ w.ownsRow base 32 5 v ns.length (nodeRow ns kvs) ∧
    ∀ (i : Nat) (n : NodeA) (kv : Value), ns[i]? = some n → kvs[i]? = some kv → w.ownsRow base 3 1 kv n.kids.length (ints n.kids)

def PostTree (w : World) (r : Except (Nat × Nat) T) (e : Ending) (w' : World) : Prop :=
  Below w.heap.size w w' ∧
  match r with
  | .ok t => ∃ v, e = .returned (.tuple #[.agg #[v], .int .i64 0, .int .i64 0]) ∧ NodeMem w' w.heap.size v (flat 0 t)
  | .error (p, n) => e = .returned (.tuple #[.agg #[.slice none 0 0], .int .i64 (p : Nat), .int .i64 (n : Nat)])

def St0 : St := ⟨0, 0, [], .slice none 0 0, []⟩

theorem St0.own {c : Cx} {k : Nat} (h : Own c St0 k) : k = c.bp := by
  rcases h with h | h | ⟨kv, h, _⟩
  · exact h
  · cases h
  · cases h

theorem St0.ps {c : Cx} {w : World} (hp : w.heap[c.bp]? = some (.cells #[.slice (some ⟨c.bl, 0, none⟩) c.toks.length c.cap, .int .i64 0, .int .i64 0, .slice none 0 0] 71 (0, 0)))
    (hm : TokMem w c.bl c.toks) (hl : c.bl < c.bp) (hf : TokFit c.toks) : PS c w St0 := by
  obtain ⟨p, hlast⟩ := hf.last
  refine ⟨hp, hm.cell, hl, hf.pos, hf.len, fun t ht => ?_, World.ownsRow_nil _ _ _ _, rfl, by simp [St0], by simp [St0], by simp [St0], by simp [St0]⟩
  rw [hlast] at ht
  cases ht
  rfl

theorem TokMem.grown {w w' : World} {bl : Nat} {toks : List Tok} (h : TokMem w bl toks) (hs : w.heap.size ≤ w'.heap.size) (hb : w'.heap[bl]? = w.heap[bl]?) : TokMem w' bl toks :=
  ⟨Nat.lt_of_lt_of_le h.lt hs, fun i t ht j v hv => (World.cell?_of_block (a := ⟨bl, i * 4 + j, none⟩) hb).trans (h.cell i t ht j v hv)⟩

theorem tree_cell {w : World} {B : Nat} {u : Value} {t : TypeId} (h : w.heap[B]? = some (.cells #[u] t (0, 0))) (v : Value) : (w.setCell ⟨B, 0, none⟩ v).cell? ⟨B, 0, none⟩ = some v := by
  simp only [World.cell?, heap_set h]
  rfl

theorem tree_ret {R : Ending → World → Prop} (w : World) (B : Nat) (v x y : Value) {a : Act} (hd : a.defers = []) (hc : w.cell? ⟨B, 0, none⟩ = some v) (h2 : a.tmps[2]?.getD undef = .pointer (some ⟨B, 0, none⟩)) (h3 : a.tmps[3]?.getD undef = x ∧ a.tmps[4]?.getD undef = y)
    (hR : R (.returned (.tuple #[.agg #[v], x, y])) w) : bodyPost Tryz.prog Tryz.f20 R .ret a w := by
  refine ⟨hd, _, ?_, hR⟩
  simp only [results, Tryz.results20]
  simp [go_sem, h2, h3.1, h3.2, hc]

set_option maxRecDepth 100000 in
set_option maxHeartbeats 8000000 in
theorem tree_calls (bl cap : Nat) (toks : List Tok) (hf : TokFit toks) (w : World) (hg : Ground2 w) (hm : TokMem w bl toks) :
    Calls Tryz.prog 20 #[.slice (some ⟨bl, 0, none⟩) toks.length cap] w (PostTree w (treeR toks)) := by
  have HF := hidden hf
  have hbl := hm.lt
  have HM := hidden hm
  have HG := hidden hg
  have hmf : ∀ (fn : Fn) (first cap : Array Value) (w : World), (Instr.makeFunc fn first cap).run Tryz.prog w = .ok (.func fn first cap) w := fun _ _ _ _ => rfl
  clear hf hm hg
  generalize htr : treeR toks = r
  go_enter Tryz.func20, Tryz.ntmps20
  go_wp2_with fail
  have hb1 : Below w.heap.size w (w.alloc (.cells #[.slice none 0 0] 25)) := (Below.refl _ _).alloc (Nat.le_refl _) _
  have hr1 := heap_alloc_new w (.cells #[.slice none 0 0] 25)
  refine (parseMay_calls bl cap toks HF.out _ (HG.out.below hb1) (HM.out.below hb1)).mono ?_
  rintro e w2 ⟨hb2, rfl⟩
  have hr2 := (hb2.block w.heap.size (by simp)).trans hr1
  have hs2 : w.heap.size < w2.heap.size := (Array.getElem?_eq_some_iff.1 hr2).1
  have hbw2 : Below w.heap.size w w2 := hb1.trans ⟨hb2.os, hb2.tape, hb2.output, hb2.size, fun q hq => hb2.block q (by simp; omega)⟩
  have HM2 := hidden (HM.out.below hbw2)
  have hbl2 := HM2.out.lt
  have HR2 := hidden hr2
  have hc0 : w2.cell? ⟨w.heap.size, 0, none⟩ = some (.slice none 0 0) := by simp [World.cell?, hr2]
  have hf0 : w2.frozen? ⟨w.heap.size, 0, none⟩ = false := by simp [World.frozen?, hr2]
  clear hb1 hr1 hb2 hr2
  rcases (show mayE toks = 0 ∨ mayE toks = 5 by unfold mayE; split <;> simp) with hme | hme
  case inr =>
    rw [hme]
    have hr : r = .error (0, 5) := by rw [← htr]; simp [treeR, hme]
    subst hr
    clear htr hme
    go_wp2_with fail
    have hc1 : (w2.setCell ⟨w.heap.size, 0, none⟩ (.slice none 0 0)).cell? ⟨w.heap.size, 0, none⟩ = some (.slice none 0 0) := tree_cell HR2.out _
    refine tree_ret _ _ _ _ _ rfl hc1 rfl ⟨rfl, rfl⟩ ?_
    exact ⟨hbw2.setCell (Nat.le_refl _) _, rfl⟩
  case inl =>
    rw [hme]
    have hr : r = (match scriptR toks with
      | .ok ts _ => if 16384 < (rootT toks ts).size then .error (0, 4) else .ok (rootT toks ts)
      | .err en p => .error (p, en)
      | .out => .error (0, 0)) := by rw [← htr]; simp [treeR, hme]
    have HRR := hidden hr
    clear htr hme hr
    go_wp2_with fail
    have hg : w2.grownBy ((w2.alloc (.cells #[.slice (some ⟨bl, 0, none⟩) toks.length cap, .int .i64 0, .int .i64 0, .slice none 0 0] 71)).alloc (.cells #[.pointer (some ⟨w2.heap.size, 0, none⟩)] 69)) none :=
      (World.grownBy_alloc w2 _ none).trans (World.grownBy_alloc _ _ none)
    have hpb : ((w2.alloc (.cells #[.slice (some ⟨bl, 0, none⟩) toks.length cap, .int .i64 0, .int .i64 0, .slice none 0 0] 71)).alloc (.cells #[.pointer (some ⟨w2.heap.size, 0, none⟩)] 69)).heap[w2.heap.size + 1]? = some (.cells #[.pointer (some ⟨w2.heap.size, 0, none⟩)] 69 (0, 0)) := by
      have := heap_alloc_new (w2.alloc (.cells #[.slice (some ⟨bl, 0, none⟩) toks.length cap, .int .i64 0, .int .i64 0, .slice none 0 0] 71)) (.cells #[.pointer (some ⟨w2.heap.size, 0, none⟩)] 69)
      simpa using this
    have hpp : ((w2.alloc (.cells #[.slice (some ⟨bl, 0, none⟩) toks.length cap, .int .i64 0, .int .i64 0, .slice none 0 0] 71)).alloc (.cells #[.pointer (some ⟨w2.heap.size, 0, none⟩)] 69)).heap[w2.heap.size]? = some (.cells #[.slice (some ⟨bl, 0, none⟩) toks.length cap, .int .i64 0, .int .i64 0, .slice none 0 0] 71 (0, 0)) := by
      rw [Below.heap_alloc _ _ _ (by simp)]
      exact heap_alloc_new w2 _
    have hsz3 : ((w2.alloc (.cells #[.slice (some ⟨bl, 0, none⟩) toks.length cap, .int .i64 0, .int .i64 0, .slice none 0 0] 71)).alloc (.cells #[.pointer (some ⟨w2.heap.size, 0, none⟩)] 69)).heap.size = w2.heap.size + 2 := by simp
    generalize ((w2.alloc (.cells #[.slice (some ⟨bl, 0, none⟩) toks.length cap, .int .i64 0, .int .i64 0, .slice none 0 0] 71)).alloc (.cells #[.pointer (some ⟨w2.heap.size, 0, none⟩)] 69)) = w3 at hg hpb hpp hsz3 ⊢
    have hps : PS ⟨w2.heap.size, bl, cap, toks⟩ w3 St0 := St0.ps hpp (HM2.out.grown hg.size (hg.block _ hbl2 (by simp))) hbl2 HF.out
    have h0 : ∀ k, Own ⟨w2.heap.size, bl, cap, toks⟩ St0 k → k = w2.heap.size := fun k h => St0.own h
    refine (script_calls _ hps rfl rfl rfl (script_fuel toks)).mono ?_
    rintro e w4 hpost
    change PostS _ w3 St0 (scriptR toks) e w4 at hpost
    cases hsr : scriptR toks with
    | out => rw [hsr] at hpost; exact hpost.elim
    | err en p =>
      rw [hsr] at hpost HRR
      obtain ⟨rfl, s4, hp4, hf4⟩ := hpost
      have hr := HRR.out
      simp only at hr
      subst hr
      have hen : 0 < en := err_pos hsr
      have hr4 : w4.heap[w.heap.size]? = some (.cells #[.slice none 0 0] 25 (0, 0)) := (hf4.block _ (by omega) (fun h => by have := h0 _ h; omega)).trans ((hg.block _ hs2 (by simp)).trans HR2.out)
      have hb4 : Below w.heap.size w w4 := ⟨hf4.os.trans (hg.os.trans hbw2.os), hf4.tape.trans (hg.tape.trans hbw2.tape), hf4.output.trans (hg.output.trans hbw2.output), by have := hf4.size; omega, fun k hk => (hf4.block k (by omega) (fun h => by have := h0 _ h; omega)).trans ((hg.block k (by omega) (by simp)).trans (hbw2.block k hk))⟩
      have hc4 : w4.cell? ⟨w.heap.size, 0, none⟩ = some (.slice none 0 0) := by simp [World.cell?, hr4]
      have hfz4 : w4.frozen? ⟨w.heap.size, 0, none⟩ = false := by simp [World.frozen?, hr4]
      have hne : ((en : Int) != 0) = true := by simp; omega
      clear hg hpb hpp hps h0 hp4 hf4 hsr hc0 hf0 hs2 hbl2 hsz3
      go_wp2_with fail
      refine tree_ret _ _ _ _ _ rfl (tree_cell hr4 _) rfl ⟨rfl, rfl⟩ ?_
      exact ⟨hb4.setCell (Nat.le_refl _) _, rfl⟩
    | ok ts rem =>
      rw [hsr] at hpost HRR
      obtain ⟨k, rfl, ⟨s4, hp4, hf4, hrep, hlen⟩⟩ := hpost
      have hr := HRR.out
      simp only at hr
      have hr4 : w4.heap[w.heap.size]? = some (.cells #[.slice none 0 0] 25 (0, 0)) := (hf4.block _ (by omega) (fun h => by have := h0 _ h; omega)).trans ((hg.block _ hs2 (by simp)).trans HR2.out)
      have hb4 : Below w.heap.size w w4 := ⟨hf4.os.trans (hg.os.trans hbw2.os), hf4.tape.trans (hg.tape.trans hbw2.tape), hf4.output.trans (hg.output.trans hbw2.output), by have := hf4.size; omega, fun k hk => (hf4.block k (by omega) (fun h => by have := h0 _ h; omega)).trans ((hg.block k (by omega) (by simp)).trans (hbw2.block k hk))⟩
      have hp4b : w4.heap[w2.heap.size + 1]? = some (.cells #[.pointer (some ⟨w2.heap.size, 0, none⟩)] 69 (0, 0)) := (hf4.block _ (by omega) (fun h => by have := h0 _ h; omega)).trans hpb
      have hs4 := hf4.size
      have hc4 : w4.cell? ⟨w.heap.size, 0, none⟩ = some (.slice none 0 0) := by simp [World.cell?, hr4]
      have hfz4 : w4.frozen? ⟨w.heap.size, 0, none⟩ = false := by simp [World.frozen?, hr4]
      have hcp4 : w4.cell? ⟨w2.heap.size + 1, 0, none⟩ = some (.pointer (some ⟨w2.heap.size, 0, none⟩)) := by simp [World.cell?, hp4b]
      have hcn : ∃ na nc, s4.nv = .slice na s4.ns.length nc := by
        rcases hp4.ns.2 with ⟨e, hn⟩ | ⟨g, cap, cur, e, _⟩
        · exact ⟨none, 0, by rw [e, hn]⟩
        · exact ⟨_, _, e⟩
      obtain ⟨na, nc, hnv⟩ := hcn
      have hc3 : w4.cell? ⟨w2.heap.size, 3, none⟩ = some (.slice na s4.ns.length nc) := by have := hp4.c3; rwa [hnv] at this
      have HP4 := hidden hp4
      have HOWN := hidden (show ∀ k, Own ⟨w2.heap.size, bl, cap, toks⟩ s4 k → k = w2.heap.size ∨ w3.heap.size ≤ k from fun k h => (hf4.own k h).imp (h0 k) id)
      have HREP := hidden hrep
      have HLEN := hidden hlen
      have hmax : s4.ns.length ≤ 16385 := by have := hp4.room; have := hp4.i; have := hp4.len; omega
      clear hg hpb hpp hps h0 hp4 hf4 hsr hc0 hf0 hnv hrep hlen
      by_cases hbig : 16384 < s4.ns.length
      case pos =>
        have hbt : ((16384 : Int) < (s4.ns.length : Int)) = True := by simp; omega
        have hr' : r = .error (0, 4) := by rw [hr, if_pos]; rw [show rootT toks ts = T.node 1 (hd toks).pos [] 0 ts from rfl, ← HLEN.out]; exact hbig
        subst hr'
        clear hr
        go_wp2_with fail
        refine tree_ret _ _ _ _ _ rfl (tree_cell hr4 _) rfl ⟨rfl, rfl⟩ ?_
        exact ⟨hb4.setCell (Nat.le_refl _) _, rfl⟩
      case neg =>
        have hbt : ((16384 : Int) < (s4.ns.length : Int)) = False := by simp; omega
        have hr' : r = .ok (rootT toks ts) := by rw [hr, if_neg]; rw [show rootT toks ts = T.node 1 (hd toks).pos [] 0 ts from rfl, ← HLEN.out]; exact hbig
        subst hr'
        clear hr
        go_wp2_with fail
        have hmax0 : s4.ns.length ≤ 16385 := by omega
        have hb5 : Below w4.heap.size w4 ((w4.alloc (.cells #[.slice none 0 0] 23)).alloc (.cells #[.func (.func 32) #[] #[.pointer (some ⟨w2.heap.size + 1, 0, none⟩), .pointer (some ⟨w4.heap.size, 0, none⟩), .pointer (some ⟨w4.heap.size + 1, 0, none⟩)]] 74)) :=
          ((Below.refl _ _).alloc (Nat.le_refl _) _).alloc (by simp) _
        have ho5 : ((w4.alloc (.cells #[.slice none 0 0] 23)).alloc (.cells #[.func (.func 32) #[] #[.pointer (some ⟨w2.heap.size + 1, 0, none⟩), .pointer (some ⟨w4.heap.size, 0, none⟩), .pointer (some ⟨w4.heap.size + 1, 0, none⟩)]] 74)).heap[w4.heap.size]? = some (.cells #[.slice none 0 0] 23 (0, 0)) := by
          rw [Below.heap_alloc _ _ _ (by simp)]
          exact heap_alloc_new w4 _
        have hw5 : ((w4.alloc (.cells #[.slice none 0 0] 23)).alloc (.cells #[.func (.func 32) #[] #[.pointer (some ⟨w2.heap.size + 1, 0, none⟩), .pointer (some ⟨w4.heap.size, 0, none⟩), .pointer (some ⟨w4.heap.size + 1, 0, none⟩)]] 74)).heap[w4.heap.size + 1]? = some (.cells #[.func (.func 32) #[] #[.pointer (some ⟨w2.heap.size + 1, 0, none⟩), .pointer (some ⟨w4.heap.size, 0, none⟩), .pointer (some ⟨w4.heap.size + 1, 0, none⟩)]] 74 (0, 0)) := by
          have := heap_alloc_new (w4.alloc (.cells #[.slice none 0 0] 23)) (.cells #[.func (.func 32) #[] #[.pointer (some ⟨w2.heap.size + 1, 0, none⟩), .pointer (some ⟨w4.heap.size, 0, none⟩), .pointer (some ⟨w4.heap.size + 1, 0, none⟩)]] 74)
          simpa using this
        have hz5 : ((w4.alloc (.cells #[.slice none 0 0] 23)).alloc (.cells #[.func (.func 32) #[] #[.pointer (some ⟨w2.heap.size + 1, 0, none⟩), .pointer (some ⟨w4.heap.size, 0, none⟩), .pointer (some ⟨w4.heap.size + 1, 0, none⟩)]] 74)).heap.size = w4.heap.size + 2 := by simp
        generalize ((w4.alloc (.cells #[.slice none 0 0] 23)).alloc (.cells #[.func (.func 32) #[] #[.pointer (some ⟨w2.heap.size + 1, 0, none⟩), .pointer (some ⟨w4.heap.size, 0, none⟩), .pointer (some ⟨w4.heap.size + 1, 0, none⟩)]] 74)) = w5 at hb5 ho5 hw5 hz5 ⊢
        have tb : TB ⟨⟨w2.heap.size, bl, cap, toks⟩, w2.heap.size + 1, w4.heap.size, w4.heap.size + 1, w4.heap.size + 2⟩ w5 s4 :=
          ⟨HP4.out.below hb5, (hb5.block (w2.heap.size + 1) (by omega)).trans hp4b, hw5, by simp; omega, by simp, by simp, by simp; omega, by simp, by simp; omega, by simp; omega, fun k hk => by
            have := (HP4.out.own_ge hk).2
            exact ⟨by simp; omega, by simp; omega⟩, by simp; omega⟩
        have to : TO ⟨⟨w2.heap.size, bl, cap, toks⟩, w2.heap.size + 1, w4.heap.size, w4.heap.size + 1, w4.heap.size + 2⟩ w5 (.slice none 0 0) [] [] := ⟨ho5, World.ownsRow_nil _ _ _ _, rfl⟩
        refine (walk_calls ⟨⟨w2.heap.size, bl, cap, toks⟩, w2.heap.size + 1, w4.heap.size, w4.heap.size + 1, w4.heap.size + 2⟩ _ _ (Nat.le_refl _) w5 s4 k _ [] [] tb to HREP.out (by rw [← HLEN.out]; simpa using hmax0)).mono ?_
        rintro e w6 ⟨rfl, outv, kvs, b6, o6, k6⟩
        obtain ⟨oa, oc, hov⟩ := o6.form
        generalize (([] : List NodeA) ++ flat ([] : List NodeA).length (T.node 1 (hd toks).pos [] 0 ts)).length = N6 at hov
        subst hov
        have hr6 : w6.heap[w.heap.size]? = some (.cells #[.slice none 0 0] 25 (0, 0)) := (k6.block _ (by omega) (by simp; omega) (by simp [Value.ownBlock])).trans ((hb5.block _ (by omega)).trans hr4)
        have hb6 : Below w.heap.size w w6 := ⟨k6.os.trans (hb5.os.trans hb4.os), k6.tape.trans (hb5.tape.trans hb4.tape), k6.output.trans (hb5.output.trans hb4.output), by have := k6.size; omega, fun q hq => (k6.block q (by omega) (by simp; omega) (by simp [Value.ownBlock])).trans ((hb5.block q (by omega)).trans (hb4.block q hq))⟩
        have hc6 : w6.cell? ⟨w.heap.size, 0, none⟩ = some (.slice none 0 0) := by simp [World.cell?, hr6]
        have hf6 : w6.frozen? ⟨w.heap.size, 0, none⟩ = false := by simp [World.frozen?, hr6]
        have ho6 : w6.cell? ⟨w4.heap.size, 0, none⟩ = some (.slice oa N6 oc) := by simp [World.cell?, o6.ho]
        have O6 := hidden o6
        have K6 := hidden k6
        clear hc4 hfz4 hcp4 hc3 hb5 ho5 hw5 tb to o6 k6 b6 hbt
        go_wp2_with fail
        refine tree_ret _ _ _ _ _ rfl (tree_cell hr6 _) rfl ⟨rfl, rfl⟩ ?_
        refine ⟨hb6.setCell (Nat.le_refl _) _, _, rfl, kvs, by have := O6.out.kvs; simpa [rootT] using this, ?_, fun i n kv h1 h2 => ?_⟩
        · exact ownsRow_base (by simpa [rootT] using ownsRow_setCell_below O6.out.out (a := ⟨w.heap.size, 0, none⟩) (by simp; omega) _) (by first | omega | (simp; omega))
        · exact ownsRow_base (ownsRow_setCell_below (K6.out.rows i n kv h1 h2) (a := ⟨w.heap.size, 0, none⟩) (by simp; omega) _) (by first | omega | (simp; omega))

end Go.Proofs.YtgdamcmfdhhheaaGreatDoor

/- parse.Parse, walked. -/
namespace Go.Proofs.YtgdamcmfdhhheaaGreatDoor
open Go.RowKit Bf

def parseR (s : List UInt8) : Except (Nat × Nat) T :=
  match tokens s with
  | .ok l => treeR l
  | .error e => .error e

theorem tokRow_at : ∀ (l : List Tok) (i j : Nat) (t : Tok) (v : Value), l[i]? = some t → (tokVals t)[j]? = some v → (tokRow l)[i * 4 + j]? = some v
  | [], i, j, t, v, h, _ => by simp at h
  | x :: l, 0, j, t, v, h, hv => by
    simp at h
    subst h
    have hj : j < (tokVals x).length := (List.getElem?_eq_some_iff.1 hv).1
    show (tokVals x ++ tokRow l)[0 * 4 + j]? = some v
    rw [List.getElem?_append_left (by omega)]
    simpa using hv
  | x :: l, i + 1, j, t, v, h, hv => by
    simp at h
    have h4 : (tokVals x).length = 4 := rfl
    show (tokVals x ++ tokRow l)[(i + 1) * 4 + j]? = some v
    rw [List.getElem?_append_right (by omega), h4, show (i + 1) * 4 + j - 4 = i * 4 + j from by omega]
    exact tokRow_at l i j t v h hv

theorem toks_mem {w : World} {base : Nat} {v : Value} {l : List Tok} (h : w.ownsRow base 59 4 v l.length (tokRow l)) (hl : 1 ≤ l.length) : ∃ g cap, v = .slice (some ⟨g, 0, none⟩) l.length cap ∧ TokMem w g l := by
  have hlt := h.lt
  obtain ⟨g, cap, hv⟩ : ∃ g cap, v = .slice (some ⟨g, 0, none⟩) l.length cap := by
    rcases h.2 with ⟨rfl, hn⟩ | ⟨g, cap, cur, rfl, _⟩
    · omega
    · exact ⟨_, _, rfl⟩
  subst hv
  refine ⟨g, cap, rfl, (hlt g rfl).2, fun i t hi j v hv => ?_⟩
  have hil : i < l.length := (List.getElem?_eq_some_iff.1 hi).1
  have hj : j < (tokVals t).length := (List.getElem?_eq_some_iff.1 hv).1
  have h4 : (tokVals t).length = 4 := rfl
  rw [h.cellAt (i * 4 + j) (by omega)]
  exact tokRow_at l i j t v hi hv

theorem NodeMem.base {w : World} {b b' : Nat} {v : Value} {ns : List NodeA} (h : NodeMem w b v ns) (hb : b' ≤ b) : NodeMem w b' v ns := by
  obtain ⟨kvs, h1, h2, h3⟩ := h
  exact ⟨kvs, h1, ownsRow_base h2 hb, fun i n kv a b => ownsRow_base (h3 i n kv a b) hb⟩


theorem parse_ret {R : Ending → World → Prop} (w : World) (B : Nat) (v x y : Value) {a : Act} (hd : a.defers = []) (hc : w.cell? ⟨B, 0, none⟩ = some v) (h2 : a.tmps[2]?.getD undef = .pointer (some ⟨B, 0, none⟩)) (h3 : a.tmps[3]?.getD undef = x ∧ a.tmps[4]?.getD undef = y)
    (hR : R (.returned (.tuple #[.agg #[v], x, y])) w) : bodyPost Tryz.prog Tryz.f9 R .ret a w := by
  refine ⟨hd, _, ?_, hR⟩
  simp only [results, Tryz.results9]
  simp [go_sem, h2, h3.1, h3.2, hc]

theorem PostTree.base {w w0 : World} {r : Except (Nat × Nat) T} {e : Ending} {w' : World} (h : PostTree w r e w') (hb : Below w0.heap.size w0 w) : PostTree w0 r e w' := by
  refine ⟨hb.trans (h.1.mono hb.size), ?_⟩
  cases r with
  | error p => exact h.2
  | ok t =>
    obtain ⟨v, h1, h2⟩ := h.2
    exact ⟨v, h1, h2.base hb.size⟩

theorem lex_err_pos : ∀ (f : Nat) (s : List UInt8) (i : Nat) (acc : List Tok) (p n : Nat), lexFrom f s i acc = .error (p, n) → 0 < n
  | 0, _, _, _, _, _, h => by simp [lexFrom] at h
  | _ + 1, [], _, _, _, _, h => by simp [lexFrom] at h
  | f + 1, b :: s, i, acc, p, n, h => by
    simp only [lexFrom] at h
    split at h
    · exact lex_err_pos _ _ _ _ _ _ h
    · split at h
      · cases h; omega
      · exact lex_err_pos _ _ _ _ _ _ h
    · cases h; omega

theorem tokens_err_pos {s : List UInt8} {p n : Nat} (h : tokens s = .error (p, n)) : 0 < n := by
  unfold tokens at h
  cases hl : lexFrom s.length s 0 [] with
  | ok l => rw [hl] at h; cases h
  | error e => rw [hl] at h; cases h; exact lex_err_pos _ _ _ _ _ _ hl

set_option maxRecDepth 100000 in
set_option maxHeartbeats 8000000 in
theorem parse_calls (s : List UInt8) (h2 : s.length ≤ 65536) (w : World) (hg : Ground2 w) :
    Calls Tryz.prog 9 #[.string ⟨s.toArray⟩] w (PostTree w (parseR s)) := by
  have HG := hidden hg
  clear hg
  have HT := hidden (show ∀ w', Below w.heap.size w w' → _ from fun w' hb => tokens_calls s h2 w' (HG.out.below hb).g)
  generalize hpr : parseR s = r
  have HR := hidden hpr
  have HL : s.length ≤ 65536 := h2
  clear hpr h2
  go_enter Tryz.func9, Tryz.ntmps9
  go_wp2_with fail
  have hb1 : Below w.heap.size w (w.alloc (.cells #[.slice none 0 0] 25)) := (Below.refl _ _).alloc (Nat.le_refl _) _
  have hr1 := heap_alloc_new w (.cells #[.slice none 0 0] 25)
  refine (HT.out _ hb1).mono ?_
  rintro e w2 ⟨hb2, hpost⟩
  have hr2 := (hb2.block w.heap.size (by simp)).trans hr1
  have hs2 : w.heap.size < w2.heap.size := (Array.getElem?_eq_some_iff.1 hr2).1
  have hbw2 : Below w.heap.size w w2 := hb1.trans (hb2.mono hb1.size)
  have HR2 := hidden hr2
  have hc0 : w2.cell? ⟨w.heap.size, 0, none⟩ = some (.slice none 0 0) := by simp [World.cell?, hr2]
  have hf0 : w2.frozen? ⟨w.heap.size, 0, none⟩ = false := by simp [World.frozen?, hr2]
  clear hb1 hr1 hr2
  cases ht : tokens s with
  | error p =>
    obtain ⟨p, n⟩ := p
    rw [ht] at hpost
    subst hpost
    have hr : r = .error (p, n) := by rw [← HR.out]; simp [parseR, ht]
    subst hr
    have hn := tokens_err_pos ht
    have hne : ((n : Int) != 0) = true := by simp; omega
    clear ht hn
    go_wp2_with fail
    refine parse_ret _ _ _ _ _ rfl (tree_cell HR2.out _) rfl ⟨rfl, rfl⟩ ?_
    exact ⟨hbw2.setCell (Nat.le_refl _) _, rfl⟩
  | ok l =>
    rw [ht] at hpost
    obtain ⟨v, rfl, hv⟩ := hpost
    have hr : r = treeR l := by rw [← HR.out]; simp [parseR, ht]
    have hfit := tokens_fit HL ht
    obtain ⟨g, cap, rfl, hm⟩ := toks_mem hv hfit.pos
    have HC := tree_calls g cap l hfit w2 (HG.out.below hbw2) hm
    rw [← hr] at HC
    have HC := hidden HC
    clear ht hfit hm hv hr HR
    go_wp2_with fail
    refine HC.out.mono ?_
    clear HC
    rintro e w3 ⟨hb3, hpost⟩
    have hr3 := (hb3.block w.heap.size hs2).trans HR2.out
    have hc3 : w3.cell? ⟨w.heap.size, 0, none⟩ = some (.slice none 0 0) := by simp [World.cell?, hr3]
    have hf3 : w3.frozen? ⟨w.heap.size, 0, none⟩ = false := by simp [World.frozen?, hr3]
    have hb4 : Below w.heap.size w w3 := hbw2.trans (hb3.mono hbw2.size)
    clear hc0 hf0
    cases r with
    | error p =>
      obtain ⟨p, n⟩ := p
      subst hpost
      go_wp2_with fail
      refine parse_ret _ _ _ _ _ rfl (tree_cell hr3 _) rfl ⟨rfl, rfl⟩ ?_
      exact ⟨hb4.setCell (Nat.le_refl _) _, rfl⟩
    | ok t =>
      obtain ⟨u, rfl, hu⟩ := hpost
      have hform : ∃ a n c, u = .slice a n c := by
        obtain ⟨kvs, h1, h2, h3⟩ := hu
        rcases h2.2 with ⟨rfl, hn⟩ | ⟨g, cap, cur, rfl, _⟩
        · exact ⟨_, _, _, rfl⟩
        · exact ⟨_, _, _, rfl⟩
      obtain ⟨ua, un, uc, rfl⟩ := hform
      have HU := hidden hu
      clear hu
      go_wp2_with fail
      refine parse_ret _ _ _ _ _ rfl (tree_cell hr3 _) rfl ⟨rfl, rfl⟩ ?_
      refine ⟨hb4.setCell (Nat.le_refl _) _, _, rfl, ?_⟩
      obtain ⟨kvs, h1, h2, h3⟩ := HU.out
      exact ⟨kvs, h1, ownsRow_base (ownsRow_setCell_below h2 (a := ⟨w.heap.size, 0, none⟩) hs2 _) hbw2.size, fun i n kv a b => ownsRow_base (ownsRow_setCell_below (h3 i n kv a b) (a := ⟨w.heap.size, 0, none⟩) hs2 _) hbw2.size⟩

end Go.Proofs.YtgdamcmfdhhheaaGreatDoor

/- What a parsed tree shows to one who reads it; kinds, many: walked. -/
namespace Go.Proofs.YtgdamcmfdhhheaaGreatDoor
open Go.RowKit Bf

theorem NodeMem.see {w : World} {base : Nat} {v : Value} {ns : List NodeA} (h : NodeMem w base v ns) (hlen : ns.length ≤ 16385) (hk : ∀ n ∈ ns, n.kids.length ≤ 16385) : NodesSee w v (ns.map toI) := by
  obtain ⟨kvs, hl, hr, hkids⟩ := h
  by_cases h0 : ns.length = 0
  · obtain rfl := List.eq_nil_of_length_eq_zero h0
    rcases hr.2 with ⟨rfl, _⟩ | ⟨g, cap, cur, rfl, _⟩
    · exact .inl ⟨rfl, _, _, rfl⟩
    · exact .inl ⟨rfl, _, _, rfl⟩
  · obtain ⟨g, cap, rfl⟩ : ∃ g cap, v = .slice (some ⟨g, 0, none⟩) ns.length cap := by
      rcases hr.2 with ⟨rfl, hn⟩ | ⟨g, cap, cur, rfl, _⟩
      · omega
      · exact ⟨_, _, rfl⟩
    refine .inr ⟨g, 0, cap, kvs, by simp, by simp; omega, by simpa using hl, fun i n kv hn hkv => ?_⟩
    obtain ⟨m, hm, rfl⟩ : ∃ m, ns[i]? = some m ∧ toI m = n := by
      rw [List.getElem?_map] at hn
      cases hm : ns[i]? with
      | none => rw [hm] at hn; cases hn
      | some m => rw [hm] at hn; cases hn; exact ⟨m, rfl, rfl⟩
    have hil : i < ns.length := (List.getElem?_eq_some_iff.1 hm).1
    refine ⟨fun j u hj => ?_, ?_⟩
    · have hj5 : j < 5 := (List.getElem?_eq_some_iff.1 hj).1
      rw [Nat.zero_add, hr.cellAt (i * 5 + j) (by omega)]
      exact nodeRow_get ns kvs i m kv hm hkv j u hj
    · have hrow := hkids i m kv hm hkv
      have hks := hk m (List.mem_of_getElem? hm)
      by_cases hz : m.kids.length = 0
      · have : m.kids = [] := List.eq_nil_of_length_eq_zero hz
        refine .inl ⟨by simp [toI, this], ?_⟩
        rcases hrow.2 with ⟨rfl, _⟩ | ⟨g, cap, cur, rfl, _⟩
        · exact ⟨_, _, rfl⟩
        · rw [hz]; exact ⟨_, _, rfl⟩
      · obtain ⟨g2, cap2, rfl⟩ : ∃ g cap, kv = .slice (some ⟨g, 0, none⟩) m.kids.length cap := by
          rcases hrow.2 with ⟨rfl, hn⟩ | ⟨g, cap, cur, rfl, _⟩
          · omega
          · exact ⟨_, _, rfl⟩
        refine .inr ⟨g2, 0, cap2, by simp [toI], by simp [toI]; omega, fun j hj => ?_⟩
        have hj' : j < m.kids.length := by simpa [toI] using hj
        rw [Nat.zero_add, hrow.cellAt j (by omega)]
        simp [ints, toI, hj']

mutual
theorem flat_kids : ∀ (b : Nat) (t : T) (n : NodeA), n ∈ flat b t → n.kids.length ≤ t.size
  | b, .node kind pos text num ts, n, h => by
    simp only [flat, List.mem_cons] at h
    rcases h with rfl | h
    · simp only [starts_length, T.size]
      have := length_le_sizeL ts
      omega
    · have := flatL_kids (b + 1) ts n h
      simp only [T.size]
      omega
theorem flatL_kids : ∀ (b : Nat) (ts : List T) (n : NodeA), n ∈ flatL b ts → n.kids.length ≤ sizeL ts
  | _, [], n, h => by simp [flatL] at h
  | b, t :: ts, n, h => by
    simp only [flatL, List.mem_append] at h
    simp only [sizeL]
    rcases h with h | h
    · have := flat_kids b t n h; omega
    · have := flatL_kids (b + t.size) ts n h; omega
theorem length_le_sizeL : ∀ (ts : List T), ts.length ≤ sizeL ts
  | [] => by simp [sizeL]
  | t :: ts => by
    have := length_le_sizeL ts
    have := T.size_pos' t
    simp only [List.length_cons, sizeL]
    omega
theorem T.size_pos' : ∀ (t : T), 1 ≤ t.size
  | .node _ _ _ _ ts => by simp [T.size]
end

theorem treeR_size {l : List Tok} {t : T} (h : treeR l = .ok t) : t.size ≤ 16384 := by
  unfold treeR at h
  split at h
  · split at h
    · split at h
      · cases h
      · cases h; omega
    · cases h
    · cases h
  · cases h

theorem parseR_size {s : List UInt8} {t : T} (h : parseR s = .ok t) : t.size ≤ 16384 := by
  unfold parseR at h
  split at h
  · exact treeR_size h
  · cases h

theorem parseR_err {s : List UInt8} {p n : Nat} (h : parseR s = .error (p, n)) : 0 < n := by
  unfold parseR at h
  split at h
  · unfold treeR at h
    split at h
    · split at h
      · split at h
        · cases h; omega
        · cases h
      · rename_i hs; cases h; exact err_pos hs
      · rename_i hs; exact absurd hs (script_fuel _)
    · cases h; omega
  · rename_i e he; cases h; exact tokens_err_pos he

/-- What Parse answers, for one who reads it. -/
def PostP (w : World) (r : Except (Nat × Nat) T) (e : Ending) (w' : World) : Prop :=
  Below w.heap.size w w' ∧
  match r with
  | .ok t => ∃ a c, e = .returned (.tuple #[.agg #[.slice (some a) t.size c], .int .i64 0, .int .i64 0]) ∧ NodesSee w' (.slice (some a) t.size c) ((flat 0 t).map toI)
  | .error (p, n) => 0 < n ∧ e = .returned (.tuple #[.agg #[.slice none 0 0], .int .i64 (p : Nat), .int .i64 (n : Nat)])

theorem parse_see (s : List UInt8) (h2 : s.length ≤ 65536) (w : World) (hg : Ground2 w) :
    Calls Tryz.prog 9 #[.string ⟨s.toArray⟩] w (PostP w (parseR s)) := by
  refine (parse_calls s h2 w hg).mono ?_
  rintro e w' ⟨hb, h⟩
  refine ⟨hb, ?_⟩
  cases hr : parseR s with
  | error p =>
    obtain ⟨p, n⟩ := p
    rw [hr] at h
    exact ⟨parseR_err hr, h⟩
  | ok t =>
    rw [hr] at h
    obtain ⟨v, rfl, hv⟩ := h
    have hsz := parseR_size hr
    have hs := NodeMem.see hv (by rw [flat_length]; omega) (fun n hn => by have := flat_kids 0 t n hn; omega)
    obtain ⟨kvs, h1, h2, h3⟩ := hv
    have hp := T.size_pos' t
    rcases h2.2 with ⟨rfl, hn⟩ | ⟨g, cap, cur, rfl, _⟩
    · rw [flat_length] at hn; omega
    · rw [flat_length] at hs ⊢
      exact ⟨_, _, rfl, hs⟩

end Go.Proofs.YtgdamcmfdhhheaaGreatDoor

/- kinds, many: walked. -/
namespace Go.Proofs.YtgdamcmfdhhheaaGreatDoor
open Go.RowKit Bf

def kindsR (s : List UInt8) (l : List Nat) : Bool :=
  match parseR s with
  | .ok t => (flat 0 t).map (·.kind) == l
  | .error _ => false

def repN (n : Nat) (s : List UInt8) : List UInt8 := match n with | 0 => [] | n + 1 => repN n s ++ s

set_option maxRecDepth 100000 in
set_option maxHeartbeats 4000000 in
theorem many_calls (s : List UInt8) (n : Nat) (hs : s.length ≤ 65536) (hn : n ≤ 65536) (w : World) :
    Calls Tryz.prog 10 #[.string ⟨s.toArray⟩, .int .i64 n] w fun e w' => e = .returned (.string ⟨(repN n s).toArray⟩) ∧ Below w.heap.size w w' := by
  have hlr : ∀ k, (repN k s).length = k * s.length := fun k => by
    induction k with
    | zero => simp [repN]
    | succ k ih => simp [repN, ih, Nat.succ_mul]
  have hbig : ∀ k, k ≤ 65536 → (repN k s).length ≤ 4294967296 := fun k hk => by
    rw [hlr]
    calc k * s.length ≤ 65536 * 65536 := Nat.mul_le_mul hk hs
      _ = 4294967296 := by decide
  clear hlr
  have HB := hidden hbig
  clear hbig
  go_enter Tryz.func10, Tryz.ntmps10
  go_wp2_with fail
  go_loopg [5, 6] n (fun m u x wr => ∃ i : Nat, .string ⟨(repN i s).toArray⟩ = u ∧ .int .i64 (i : Nat) = x ∧ i + m = n ∧ wr = w)
  case atStart => exact ⟨0, rfl, rfl, by omega, rfl⟩
  case round =>
    obtain ⟨i, rfl, rfl, him, rfl⟩ := hrel
    by_cases hi : i < n
    case neg =>
      have hl : ((i : Int) < (n : Int)) = False := by simp; omega
      obtain rfl : i = n := by omega
      go_wp2_with fail
      go_ret
      exact ⟨rfl, Below.refl _ _⟩
    case pos =>
      have hl : ((i : Int) < (n : Int)) = True := by simp; omega
      obtain ⟨m, rfl⟩ : ∃ m, gk = m + 1 := ⟨gk - 1, by omega⟩
      have hb : (9223372036854775807 < (repN i s).length + s.length) = False := by have := HB.out i (by omega); simp; omega
      have e : (⟨(repN i s).toArray⟩ : ByteArray) ++ ⟨s.toArray⟩ = ⟨(repN (i + 1) s).toArray⟩ := by
        apply ByteArray.ext
        simp [repN]
      go_wp2_with fail
      go_roundg m
      case measure => omega
      case rel => exact ⟨i + 1, rfl, rfl, by omega, rfl⟩

set_option maxRecDepth 100000 in
set_option maxHeartbeats 4000000 in
theorem kinds_calls (s : List UInt8) (h2 : s.length ≤ 65536) (g cap : Nat) (l : List Nat) (w : World) (hg : Ground2 w) (hl : l.length ≤ 65536)
    (hc : ∀ j, j < l.length → w.cell? ⟨g, j, none⟩ = some (.int .u8 (l.getD j 0 : Nat))) :
    Calls Tryz.prog 12 #[.string ⟨s.toArray⟩, .slice (some ⟨g, 0, none⟩) l.length cap] w fun e w' => e = .returned (.bool (kindsR s l)) ∧ Below w.heap.size w w' := by
  have HP := hidden (parse_see s h2 w hg)
  have HC := hidden hc
  clear hc hg h2
  generalize hres : kindsR s l = res
  unfold kindsR at hres
  generalize parseR s = r at HP hres
  have HR := hidden hres
  clear hres
  go_enter Tryz.func12, Tryz.ntmps12
  go_wp2_with fail
  refine HP.out.mono ?_
  rintro e w2 ⟨hb2, hpost⟩
  have HB2 := hidden hb2
  cases r with
  | error p =>
    obtain ⟨p, n⟩ := p
    obtain ⟨hn, rfl⟩ := hpost
    have hne : ((n : Int) != 0) = true := by simp; omega
    clear hn
    obtain rfl : false = res := HR.out
    go_wp2_with fail
    go_ret
    exact ⟨rfl, (hb2.alloc hb2.size _)⟩
  | ok t =>
    obtain ⟨a, c, rfl, hsee⟩ := hpost
    have hbase : (flat 0 t).length = t.size := flat_length 0 t
    have hpos := T.size_pos' t
    have hr : ((flat 0 t).map (·.kind) == l) = res := HR.out
    generalize flat 0 t = ns at hsee hbase hr
    generalize t.size = L at hsee hbase hpos
    subst hbase
    by_cases hlen : ns.length = l.length
    rotate_left
    · have hne : (((ns.length : Nat) : Int) != (l.length : Nat)) = true := by simp; omega
      have hf : (ns.map (·.kind) == l) = false := by
        rw [beq_eq_false_iff_ne]
        rintro rfl
        simp at hlen
      obtain rfl : false = res := hf.symm.trans hr
      clear hsee hlen hf hr HR hpos
      go_wp2_with fail
      all_goals go_ret
      all_goals exact ⟨rfl, (hb2.alloc hb2.size _)⟩
    rcases hsee with ⟨hnil, _⟩ | ⟨b, o, c', kvs, hv, h1, h2, h3⟩
    · simp at hnil; subst hnil; simp at hpos
    rw [List.length_map] at hv
    cases hv
    simp only [List.length_map] at h2
    have hkv : ∀ i, i < ns.length → ∃ n, ns[i]? = some n ∧ w2.cell? ⟨b, o + i * 5, none⟩ = some (.int .u8 (n.kind : Nat)) := fun i hi => by
      refine ⟨ns[i], List.getElem?_eq_getElem hi, ?_⟩
      exact (h3 i (toI ns[i]) (kvs[i]'(by omega)) (by simp [hi]) (List.getElem?_eq_getElem _)).1 0 _ rfl
    have HKV := hidden hkv
    have hres : res = decide (∀ j, j < l.length → (ns.map (·.kind)).getD j 0 = l.getD j 0) := by
      rw [← hr]
      rw [Bool.eq_iff_iff]
      simp only [beq_iff_eq, decide_eq_true_eq]
      constructor
      · rintro rfl j _; rfl
      · intro h
        apply List.ext_getElem (by simp [hlen])
        intro j h1 h2
        have := h j h2
        have h1' : j < ns.length := by simpa using h1
        simp only [List.getD_eq_getElem?_getD, List.getElem?_map, List.getElem?_eq_getElem h1', List.getElem?_eq_getElem h2, Option.map_some, Option.getD_some] at this
        simpa using this
    have HRES := hidden hres
    have HLEN := hidden hlen
    clear h1 h2 h3 hkv hr hres HR hpos
    have hne : (((ns.length : Nat) : Int) != (l.length : Nat)) = false := by simp; omega
    clear hlen
    go_wp2_with fail
    have hE := heap_alloc_new w2 (.cells #[.slice (some ⟨b, o, none⟩) ns.length c] 25)
    have hb3 := hb2.alloc hb2.size (.cells #[.slice (some ⟨b, o, none⟩) ns.length c] 25)
    have hbz : Below w2.heap.size w2 (w2.alloc (.cells #[.slice (some ⟨b, o, none⟩) ns.length c] 25)) := (Below.refl _ _).alloc (Nat.le_refl _) _
    go_loopg [8] l.length (fun m u wr => ∃ i : Nat, .int .i64 (i : Nat) = u ∧ i + m = l.length ∧ Below w.heap.size w wr ∧ Below w2.heap.size w2 wr ∧ wr.heap[w2.heap.size]? = some (.cells #[.slice (some ⟨b, o, none⟩) ns.length c] 25 (0, 0)) ∧ ∀ j, j < i → (ns.map (·.kind)).getD j 0 = l.getD j 0)
    case atStart => exact ⟨0, rfl, by omega, hb3, hbz, hE, fun j hj => by omega⟩
    case round =>
      clear hE hb3 hbz
      obtain ⟨i, rfl, him, hb4, hb5, hE, hall⟩ := hrel
      have HALL := hidden hall
      clear hall
      have hE0 : wr.cell? ⟨w2.heap.size, 0, none⟩ = some (.slice (some ⟨b, o, none⟩) ns.length c) := by simp [World.cell?, hE]
      by_cases hi : i < l.length
      case neg =>
        have hli : ((i : Int) < (l.length : Int)) = False := by simp; omega
        obtain rfl : true = res := by
          rw [HRES.out]
          symm
          rw [decide_eq_true_eq]
          exact fun j hj => HALL.out j (by omega)
        go_wp2_with fail
        go_ret
        exact ⟨rfl, hb4⟩
      case pos =>
        have hli : ((i : Int) < (l.length : Int)) = True := by simp; omega
        obtain ⟨m, rfl⟩ : ∃ m, gk = m + 1 := ⟨gk - 1, by omega⟩
        obtain ⟨n, hn, hc⟩ := HKV.out i (by rw [HLEN.out]; exact hi)
        have hc1 : wr.cell? ⟨b, o + i * 5, none⟩ = some (.int .u8 (n.kind : Nat)) := cell_below hb5 hc
        have hc2 : wr.cell? ⟨g, i, none⟩ = some (.int .u8 (l.getD i 0 : Nat)) := cell_below hb4 (HC.out i hi)
        have hk : (ns.map (·.kind)).getD i 0 = n.kind := by simp [hn]
        generalize hx : l.getD i 0 = x at hc2
        have hin : i < ns.length := by rw [HLEN.out]; exact hi
        clear hc hn
        by_cases hkx : n.kind = x
        · have hr2 := hidden (show ∀ j, j < i + 1 → (ns.map (·.kind)).getD j 0 = l.getD j 0 from fun j hj => by
            rcases Nat.lt_or_ge j i with h | h
            · exact HALL.out j h
            · obtain rfl : j = i := by omega
              rw [hk, hx, hkx])
          rw [hkx] at hc1
          clear hk hx hkx
          go_wp2_with fail
          go_region
          go_wp2_with fail
          go_roundg m
          case measure => omega
          case rel => exact ⟨i + 1, rfl, by omega, hb4.drew, hb5.drew, hE, hr2.out⟩
        · have hne2 : (((n.kind : Nat) : Int) != ((x : Nat) : Int)) = true := by simp; omega
          obtain rfl : false = res := by
            rw [HRES.out]
            symm
            rw [decide_eq_false_iff_not]
            intro h
            have := h i hi
            rw [hk, hx] at this
            exact hkx this
          clear hk hx hkx
          go_wp2_with fail
          go_region
          go_wp2_with fail
          go_ret
          exact ⟨rfl, hb4.drew⟩

end Go.Proofs.YtgdamcmfdhhheaaGreatDoor

/- alive: walked. -/
namespace Go.Proofs.YtgdamcmfdhhheaaGreatDoor
open Go.RowKit Bf

def aliveT : T := .node 1 0 [] 0 [.node 6 0 [] 0 [.node 43 0 [61] 0 [.node 26 0 [97] 0 [], .node 39 4 [43] 0 [.node 26 4 [98] 0 [], .node 20 8 [] 4607182418800017408 []]]]]

theorem alive_parse : parseR [97, 32, 61, 32, 98, 32, 43, 32, 49, 59] = .ok aliveT := by kernel_rfl

theorem alive_kinds : kindsR [97, 32, 61, 32, 98, 32, 43, 32, 49, 59] [1, 6, 43, 26, 39, 26, 20] = true := by
  unfold kindsR
  rw [alive_parse]
  rfl

set_option maxRecDepth 100000 in
set_option maxHeartbeats 4000000 in
theorem alive_calls (w : World) (hg : Ground2 w) :
    Calls Tryz.prog 8 #[] w fun e w' => e = .returned (.bool true) ∧ Below w.heap.size w w' := by
  have HG := hidden hg
  have hp := parse_see [97, 32, 61, 32, 98, 32, 43, 32, 49, 59] (by decide) w hg
  rw [alive_parse] at hp
  have HP := hidden hp
  clear hp hg
  go_enter Tryz.func8, Tryz.ntmps8
  go_wp2_with fail
  refine HP.out.mono ?_
  rintro e w2 ⟨hb2, a, c, rfl, hsee⟩
  have HB2 := hidden hb2
  clear HP
  have hsz : aliveT.size = 7 := rfl
  rw [hsz] at hsee ⊢
  rcases hsee with ⟨hnil, _⟩ | ⟨b, o, c', kvs, hv, h1, h2, h3⟩
  · cases hnil
  have hv' : Value.slice (some a) 7 c = Value.slice (some ⟨b, o, none⟩) 7 c' := hv
  cases hv'
  have hk : kvs.length = 7 := h2
  have c2t : w2.cell? ⟨b, o + 2 * 5 + 2, none⟩ = some (.string ⟨#[61]⟩) := (h3 2 _ (kvs[2]'(by omega)) rfl (List.getElem?_eq_getElem _)).1 2 _ rfl
  have c4t : w2.cell? ⟨b, o + 4 * 5 + 2, none⟩ = some (.string ⟨#[43]⟩) := (h3 4 _ (kvs[4]'(by omega)) rfl (List.getElem?_eq_getElem _)).1 2 _ rfl
  have c4a : w2.cell? ⟨b, o + 4 * 5 + 1, none⟩ = some (.int .i64 4) := (h3 4 _ (kvs[4]'(by omega)) rfl (List.getElem?_eq_getElem _)).1 1 _ rfl
  have c6n : w2.cell? ⟨b, o + 6 * 5 + 3, none⟩ = some (.float .f64 4607182418800017408) := (h3 6 _ (kvs[6]'(by omega)) rfl (List.getElem?_eq_getElem _)).1 3 _ rfl
  have c6a : w2.cell? ⟨b, o + 6 * 5 + 1, none⟩ = some (.int .i64 8) := (h3 6 _ (kvs[6]'(by omega)) rfl (List.getElem?_eq_getElem _)).1 1 _ rfl
  have c2k : w2.cell? ⟨b, o + 2 * 5 + 4, none⟩ = some (kvs[2]'(by omega)) := (h3 2 _ (kvs[2]'(by omega)) rfl (List.getElem?_eq_getElem _)).1 4 _ rfl
  have hkk : KidsSee w2 (kvs[2]'(by omega)) [3, 4] := (h3 2 _ (kvs[2]'(by omega)) rfl (List.getElem?_eq_getElem _)).2
  rcases hkk with ⟨hnil, _⟩ | ⟨b2, o2, c2, hv2, _, hk2⟩
  · cases hnil
  rw [hv2] at c2k
  have ck1 : w2.cell? ⟨b2, o2 + 1, none⟩ = some (.int .i64 4) := hk2 1 (by decide)
  change w2.cell? ⟨b, o + 2 * 5 + 4, none⟩ = some (.slice (some ⟨b2, o2, none⟩) 2 c2) at c2k
  have HC := hidden (And.intro c2t <| And.intro c4t <| And.intro c4a <| And.intro c6n <| And.intro c6a <| And.intro c2k ck1)
  clear c2t c4t c4a c6n c6a c2k ck1 h1 h2 h3 hv2 hk2 hk
  have hkc : ∀ w3, Below w2.heap.size w2 w3 → ∀ g cap, w3.heap[g]? = some (.cells #[.int .u8 1, .int .u8 6, .int .u8 43, .int .u8 26, .int .u8 39, .int .u8 26, .int .u8 20] 5 (0, 0)) →
      Calls Tryz.prog 12 #[.string ⟨#[97, 32, 61, 32, 98, 32, 43, 32, 49, 59]⟩, .slice (some ⟨g, 0, none⟩) 7 cap] w3 fun e w' => e = .returned (.bool true) ∧ Below w3.heap.size w3 w' := fun w3 hb3 g cap hcell => by
    have := kinds_calls [97, 32, 61, 32, 98, 32, 43, 32, 49, 59] (by decide) g cap [1, 6, 43, 26, 39, 26, 20] w3 (HG.out.below (HB2.out.trans (hb3.mono HB2.out.size))) (by decide) (fun j hj => by
      have : j < 7 := hj
      rcases j with _ | _ | _ | _ | _ | _ | _ | j <;> first | omega | simp [World.cell?, hcell])
    rw [alive_kinds] at this
    exact this
  have HK := hidden hkc
  clear hkc
  have hbz : Below w2.heap.size w2 ((w2.alloc (.cells #[.slice (some ⟨b, o, none⟩) 7 c] 25)).alloc (.cells #[.int .u8 1, .int .u8 6, .int .u8 43, .int .u8 26, .int .u8 39, .int .u8 26, .int .u8 20] 5)) :=
    ((Below.refl _ _).alloc (Nat.le_refl _) _).alloc (by simp) _
  have hbx : ((w2.alloc (.cells #[.slice (some ⟨b, o, none⟩) 7 c] 25)).alloc (.cells #[.int .u8 1, .int .u8 6, .int .u8 43, .int .u8 26, .int .u8 39, .int .u8 26, .int .u8 20] 5)).heap[w2.heap.size + 1]? = some (.cells #[.int .u8 1, .int .u8 6, .int .u8 43, .int .u8 26, .int .u8 39, .int .u8 26, .int .u8 20] 5 (0, 0)) := by
    have := heap_alloc_new (w2.alloc (.cells #[.slice (some ⟨b, o, none⟩) 7 c] 25)) (.cells #[.int .u8 1, .int .u8 6, .int .u8 43, .int .u8 26, .int .u8 39, .int .u8 26, .int .u8 20] 5)
    simpa using this
  have hbt : ((w2.alloc (.cells #[.slice (some ⟨b, o, none⟩) 7 c] 25)).alloc (.cells #[.int .u8 1, .int .u8 6, .int .u8 43, .int .u8 26, .int .u8 39, .int .u8 26, .int .u8 20] 5)).heap[w2.heap.size]? = some (.cells #[.slice (some ⟨b, o, none⟩) 7 c] 25 (0, 0)) := by
    rw [Below.heap_alloc _ _ _ (by simp)]
    exact heap_alloc_new w2 _
  have hlt : w2.heap.size < ((w2.alloc (.cells #[.slice (some ⟨b, o, none⟩) 7 c] 25)).alloc (.cells #[.int .u8 1, .int .u8 6, .int .u8 43, .int .u8 26, .int .u8 39, .int .u8 26, .int .u8 20] 5)).heap.size := (Array.getElem?_eq_some_iff.1 hbt).1
  have HBT := hidden hbt
  clear hbt
  go_wp2_with fail
  refine (HK.out _ hbz _ _ hbx).mono ?_
  rintro e w3 ⟨rfl, hb3⟩
  have hb4 : Below w2.heap.size w2 w3 := hbz.trans (hb3.mono hbz.size)
  have hb5 : Below w.heap.size w w3 := HB2.out.trans (hb4.mono HB2.out.size)
  have hT := (hb3.block _ hlt).trans HBT.out
  have hT0 : w3.cell? ⟨w2.heap.size, 0, none⟩ = some (.slice (some ⟨b, o, none⟩) 7 c) := by simp [World.cell?, hT]
  obtain ⟨c1, c2', c3, c4, c5, c6, c7⟩ := HC.out
  have d1 := cell_below hb4 c1
  have d2 := cell_below hb4 c2'
  have d3 := cell_below hb4 c3
  have d4 := cell_below hb4 c4
  have d5 := cell_below hb4 c5
  have d6 := cell_below hb4 c6
  have d7 := cell_below hb4 c7
  clear c1 c2' c3 c4 c5 c6 c7 hbz hbx hb3 HBT HC HK
  go_wp2_with fail
  all_goals go_ret
  all_goals exact ⟨rfl, hb5⟩

end Go.Proofs.YtgdamcmfdhhheaaGreatDoor
